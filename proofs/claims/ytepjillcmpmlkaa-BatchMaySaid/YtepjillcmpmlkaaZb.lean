/- Texts of this seat, put together: Heap, Str, Low, Reg, Sees, BatL, Shelf, PackZ, Txt, PackI. Each begins with a remark that says what is proved in it, and under which conditions. -/
import Derived.Great.BuildSlice
import Derived.Lib.ConvBytes
import Derived.Deep.MidRow
import Derived.Shelf.Strings.Builder1
import Derived.Shelf.Strings.Builder2
import Derived.Shelf.Small.Strs
import Derived.Shelf.Strings.BuilderF
import Derived.Shelf.Strings.BuilderK
import Derived.Shelf.Strings.Builder2Cap
import Derived.Shelf.Strconv.Itoa0
import Derived.Shelf.Strings.Search1
import Derived.Shelf.Strings.Search2
import Derived.Shelf.Strings.Cut
import Derived.Shelf.LaysM
import Derived.Shelf.Strings.Shaped
import Derived.Shelf.Strings.Prefix
import Derived.Shelf.Bits.Mul64
import Derived.Shelf.Strings.Repeat
import Derived.Test.YtepjillcmpmlkaaProg
import Derived.OwnWalk
import Derived.Test.YtepjillcmpmlkaaZa
/- The walk's memory: what is known of it, piece by piece, and what each operation does to it. No conditions but those each law names. -/
namespace Go
namespace TL
open Go.RowKit
/-- A row of bytes, closed to the walk's simp; a text, likewise. -/
def bs (l : List UInt8) : List Value := l.map vb
def mkS (l : List UInt8) : ByteArray := ⟨l.toArray⟩
theorem bs_length (l : List UInt8) : (bs l).length = l.length := by simp [bs]
theorem bs_one (l : List UInt8) : ∀ q ∈ bs l, q.oneCell' = true := vb_one l
theorem bs_set (l : List UInt8) (i : Nat) (b : UInt8) : bs (l.set i b) = (bs l).set i (vb b) := by simp [bs, List.map_set]
theorem bs_append (l m : List UInt8) : bs (l ++ m) = bs l ++ bs m := by simp [bs]
theorem mkS_size (l : List UInt8) : (mkS l).size = l.length := by simp [mkS, ByteArray.size]
theorem mkS_data (l : List UInt8) : (mkS l).data.toList = l := by simp [mkS]
theorem mkS_toList (l : List UInt8) : (mkS l).toList = l := by simp [mkS, Lib.toList_data]
theorem mkS_append (l m : List UInt8) : mkS l ++ mkS m = mkS (l ++ m) := by
  apply ByteArray.ext; apply Array.ext'; simp [mkS]
theorem mkS_of (s : ByteArray) : ∃ l, s = mkS l := ⟨s.data.toList, by simp [mkS]⟩
theorem mkS_inj {l m : List UInt8} : mkS l = mkS m ↔ l = m := ⟨fun h => by rw [← mkS_toList l, h, mkS_toList], fun h => by rw [h]⟩
/-- Of what was there, only the blocks F have turned. -/
structure Kept (F : List Nat) (w0 w : World) : Prop where
  os : w.os = w0.os
  tape : w.tape = w0.tape
  output : w.output = w0.output
  size : w0.heap.size ≤ w.heap.size
  block : ∀ k, k < w0.heap.size → k ∉ F → w.heap[k]? = w0.heap[k]?
theorem Kept.refl (F : List Nat) (w : World) : Kept F w w := ⟨rfl, rfl, rfl, Nat.le_refl _, fun _ _ _ => rfl⟩
theorem Kept.below {w0 w : World} (h : Kept [] w0 w) : Below w0.heap.size w0 w := ⟨h.os, h.tape, h.output, h.size, fun k hk => h.block k hk (by simp)⟩
theorem Kept.of_below {w0 w : World} (h : Below w0.heap.size w0 w) (F : List Nat) : Kept F w0 w := ⟨h.os, h.tape, h.output, h.size, fun k hk _ => h.block k hk⟩
theorem Kept.trans {F G : List Nat} {a b c : World} (h : Kept F a b) (k : Kept G b c) (hG : ∀ x ∈ G, x ∈ F ∨ a.heap.size ≤ x) : Kept F a c :=
  ⟨k.os.trans h.os, k.tape.trans h.tape, k.output.trans h.output, Nat.le_trans h.size k.size, fun i hi hF => (k.block i (Nat.lt_of_lt_of_le hi h.size) fun hx => by
    rcases hG i hx with h1 | h1
    · exact hF h1
    · omega).trans (h.block i hi hF)⟩
theorem Kept.mono {F G : List Nat} {a b : World} (h : Kept F a b) (hG : ∀ x ∈ F, x ∈ G) : Kept G a b := ⟨h.os, h.tape, h.output, h.size, fun k hk hn => h.block k hk fun hx => hn (hG k hx)⟩
theorem Kept.grown {w w' : World} {row : Option Nat} (h : w.grownBy w' row) : Kept row.toList w w' :=
  ⟨h.os, h.tape, h.output, h.size, fun k hk hn => h.block k hk fun e => hn (by rw [← e]; simp)⟩
theorem Kept.drew {F : List Nat} {a w : World} (h : Kept F a w) : Kept F a w.drew := ⟨h.os, h.tape, h.output, h.size, h.block⟩
theorem Kept.alloc (w : World) (o : Obj) : Kept [] w (w.alloc o) := Kept.of_below ((Below.refl _ _).alloc (Nat.le_refl _) o) _
/-- A piece of memory: a block's cells; a slice that is owned; a whole object; whatever lies in some blocks. -/
inductive Chunk where
  | row (g : Nat) (cs : List Value)
  | sl (size : Nat) (v : Value) (n : Nat) (xs : List Value)
  | blk (g : Nat) (o : Obj)
  | obj (fp : List Nat) (p : World → Prop)
def Chunk.fp : Chunk → List Nat
  | .row g _ => [g]
  | .sl _ v _ _ => v.ownBlock.toList
  | .blk g _ => [g]
  | .obj f _ => f
def Chunk.ok (w : World) : Chunk → Prop
  | .row g cs => g < w.heap.size ∧ w.rangeAt g 0 cs ∧ w.there g 0 cs.length
  | .sl size v n xs => Own w 0 size v n xs
  | .blk g o => w.heap[g]? = some o
  | .obj f p => (∀ k ∈ f, k < w.heap.size) ∧ p w ∧ ∀ w' : World, w.heap.size ≤ w'.heap.size → (∀ k ∈ f, w'.heap[k]? = w.heap[k]?) → p w'
theorem Chunk.ok.lt {w : World} {c : Chunk} (h : c.ok w) : ∀ k ∈ c.fp, k < w.heap.size := by
  intro k hk
  cases c with
  | row g cs => simp [Chunk.fp] at hk; subst hk; exact h.1
  | sl size v n xs =>
    simp only [Chunk.fp, Option.mem_toList] at hk
    exact (Own.base_le h hk).2
  | blk g o => simp [Chunk.fp] at hk; subst hk; exact (Array.getElem?_eq_some_iff.1 h).1
  | obj f p => exact h.1 k hk
theorem Chunk.ok.stay {w w' : World} {c : Chunk} (h : c.ok w) (hs : w.heap.size ≤ w'.heap.size) (hb : ∀ k ∈ c.fp, w'.heap[k]? = w.heap[k]?) : c.ok w' := by
  cases c with
  | row g cs =>
    have e := hb g (by simp [Chunk.fp])
    exact ⟨Nat.lt_of_lt_of_le h.1 hs, rangeAt_of_block h.2.1 e, there_of_block h.2.2 e⟩
  | sl size v n xs =>
    refine ⟨h.1, h.2.imp id ?_⟩
    rintro ⟨g, o, cap, rfl, hb', hlt, hn, hc, hr, ht⟩
    have e := hb g (by simp [Chunk.fp, Value.ownBlock])
    exact ⟨g, o, cap, rfl, hb', Nat.lt_of_lt_of_le hlt hs, hn, hc, rangeAt_of_block hr e, there_of_block ht e⟩
  | blk g o => exact (hb g (by simp [Chunk.fp])).trans h
  | obj f p =>
    refine ⟨fun k hk => Nat.lt_of_lt_of_le (h.1 k hk) hs, h.2.2 w' hs hb, fun w'' hs' hb' => h.2.2 w'' (Nat.le_trans hs hs') fun k hk => (hb' k hk).trans (hb k hk)⟩
/-- What one piece's owner may do: the piece turns to another one, in the same blocks or new ones. -/
structure Upd (w : World) (c : Chunk) (w' : World) (c' : Chunk) : Prop where
  kept : Kept c.fp w w'
  ok : c'.ok w'
  fp : ∀ k ∈ c'.fp, k ∈ c.fp ∨ w.heap.size ≤ k
/-- THE MEMORY: of what was there at w0 only F has turned; these pieces are known, apart from each other, and may be written. -/
structure Mem (F : List Nat) (w0 w : World) (L : List Chunk) : Prop where
  kept : Kept F w0 w
  ok : ∀ (i : Nat) (c : Chunk), L[i]? = some c → c.ok w
  own : ∀ (i : Nat) (c : Chunk), L[i]? = some c → ∀ k ∈ c.fp, k ∈ F ∨ w0.heap.size ≤ k
  nd : ∀ (i j : Nat) (c d : Chunk), i ≠ j → L[i]? = some c → L[j]? = some d → ∀ k ∈ c.fp, k ∉ d.fp
theorem Mem.start (F : List Nat) (w : World) : Mem F w w [] := ⟨Kept.refl _ _, by simp, by simp, by simp⟩
/-- With a piece that came in, and may be turned. -/
theorem Mem.start1 {w : World} {c : Chunk} (h : c.ok w) : Mem c.fp w w [c] := by
  refine ⟨Kept.refl _ _, ?_, ?_, ?_⟩
  · intro i d hd; cases i <;> simp at hd; subst hd; exact h
  · intro i d hd; cases i <;> simp at hd; subst hd; exact fun k hk => .inl hk
  · intro i j c d hij hi hj; cases i <;> cases j <;> simp at hi hj hij
theorem Mem.upd {F : List Nat} {w0 w w' : World} {L : List Chunk} (M : Mem F w0 w L) (i : Nat) {c c' : Chunk} (hi : L[i]? = some c) (U : Upd w c w' c') : Mem F w0 w' (L.set i c') := by
  have hil : i < L.length := (List.getElem?_eq_some_iff.1 hi).1
  have key : ∀ (j : Nat) (d : Chunk), j ≠ i → L[j]? = some d → d.ok w' := fun j d hj hd => by
    refine (M.ok j d hd).stay U.kept.size fun k hk => U.kept.block k ((M.ok j d hd).lt k hk) fun hx => M.nd j i d c hj hd hi k hk hx
  refine ⟨M.kept.trans U.kept fun x hx => M.own i c hi x hx, ?_, ?_, ?_⟩
  · intro j d hd
    by_cases e : j = i
    · subst e; rw [List.getElem?_set_self hil] at hd; cases hd; exact U.ok
    · rw [List.getElem?_set_ne (Ne.symm e)] at hd; exact key j d e hd
  · intro j d hd k hk
    by_cases e : j = i
    · subst e; rw [List.getElem?_set_self hil] at hd; cases hd
      rcases U.fp k hk with h | h
      · exact M.own j c hi k h
      · exact .inr (Nat.le_trans M.kept.size h)
    · rw [List.getElem?_set_ne (Ne.symm e)] at hd; exact M.own j d hd k hk
  · intro a b x y hab ha hb k hk hk2
    by_cases e : a = i
    · subst e; rw [List.getElem?_set_self hil] at ha; cases ha
      rw [List.getElem?_set_ne hab] at hb
      rcases U.fp k hk with h | h
      · exact M.nd a b c y hab hi hb k h hk2
      · have := (M.ok b y hb).lt k hk2; omega
    · rw [List.getElem?_set_ne (Ne.symm e)] at ha
      by_cases e2 : b = i
      · subst e2; rw [List.getElem?_set_self hil] at hb; cases hb
        rcases U.fp k hk2 with h | h
        · exact M.nd a b x c hab ha hi k hk h
        · have := (M.ok a x ha).lt k hk; omega
      · rw [List.getElem?_set_ne (Ne.symm e2)] at hb
        exact M.nd a b x y hab ha hb k hk hk2
theorem Mem.add {F : List Nat} {w0 w w' : World} {L : List Chunk} (M : Mem F w0 w L) (c : Chunk) (hk : Kept [] w w') (hok : c.ok w') (hfp : ∀ k ∈ c.fp, w.heap.size ≤ k) : Mem F w0 w' (c :: L) := by
  have key : ∀ (j : Nat) (d : Chunk), L[j]? = some d → d.ok w' := fun j d hd => (M.ok j d hd).stay hk.size fun k hk' => hk.block k ((M.ok j d hd).lt k hk') (by simp)
  refine ⟨M.kept.trans hk (by simp), ?_, ?_, ?_⟩
  · intro j d hd
    cases j with
    | zero => simp at hd; subst hd; exact hok
    | succ j => simp at hd; exact key j d hd
  · intro j d hd k hk'
    cases j with
    | zero => simp at hd; subst hd; exact .inr (Nat.le_trans M.kept.size (hfp k hk'))
    | succ j => simp at hd; exact M.own j d hd k hk'
  · intro a b x y hab ha hb k hk1 hk2
    cases a with
    | zero =>
      simp at ha; subst ha
      cases b with
      | zero => exact hab rfl
      | succ b => simp at hb; have := (M.ok b y hb).lt k hk2; have := hfp k hk1; omega
    | succ a =>
      simp at ha
      cases b with
      | zero => simp at hb; subst hb; have := (M.ok a x ha).lt k hk1; have := hfp k hk2; omega
      | succ b => simp at hb; exact M.nd a b x y (by omega) ha hb k hk1 hk2
/-- A call that leaves alone what was there. -/
theorem Mem.call {F : List Nat} {w0 w w' : World} {L : List Chunk} (M : Mem F w0 w L) (h : Below w.heap.size w w') : Mem F w0 w' L := by
  have hk := Kept.of_below h []
  exact ⟨M.kept.trans hk (by simp), fun j d hd => (M.ok j d hd).stay hk.size fun k hk' => hk.block k ((M.ok j d hd).lt k hk') (by simp), M.own, M.nd⟩
theorem Mem.drew {F : List Nat} {w0 w : World} {L : List Chunk} (M : Mem F w0 w L) : Mem F w0 w.drew L := ⟨M.kept.drew, fun i c h => (M.ok i c h).stay (Nat.le_refl _) (fun _ _ => rfl), M.own, M.nd⟩
/-- A piece is let go; pieces are laid in another row. -/
theorem Mem.pick {F : List Nat} {w0 w : World} {L : List Chunk} (M : Mem F w0 w L) (L' : List Chunk) (f : Nat → Nat) (hf : ∀ i j, i < L'.length → j < L'.length → f i = f j → i = j) (h : ∀ (i : Nat) (c : Chunk), L'[i]? = some c → L[f i]? = some c) : Mem F w0 w L' :=
  ⟨M.kept, fun i c hc => M.ok (f i) c (h i c hc), fun i c hc => M.own (f i) c (h i c hc), fun i j c d hij hi hj => M.nd (f i) (f j) c d (fun e => hij (hf i j (List.getElem?_eq_some_iff.1 hi).1 (List.getElem?_eq_some_iff.1 hj).1 e)) (h i c hi) (h j d hj)⟩
theorem Mem.tail {F : List Nat} {w0 w : World} {c : Chunk} {L : List Chunk} (M : Mem F w0 w (c :: L)) : Mem F w0 w L := M.pick L (· + 1) (fun _ _ _ _ h => by simpa using h) (fun i c h => by simpa using h)
theorem Mem.below {w0 w : World} {L : List Chunk} (M : Mem [] w0 w L) : Below w0.heap.size w0 w := M.kept.below
/-- A nil slice is owned by whoever wants it. -/
theorem Mem.nil {F : List Nat} {w0 w : World} {L : List Chunk} (M : Mem F w0 w L) (size : Nat) : Mem F w0 w (.sl size (.slice none 0 0) 0 [] :: L) :=
  M.add _ (Kept.refl _ _) (Own_nil _ _ _) (by simp [Chunk.fp, Value.ownBlock])
/-- What is seen outside of the blocks that may turn is seen on. -/
theorem Mem.sees {F : List Nat} {w0 w : World} {L : List Chunk} (M : Mem F w0 w L) {size : Nat} {v : Value} {n : Nat} {xs : List Value} (S : Sees w0 size v n xs) (hF : ∀ k, v.ownBlock = some k → k ∉ F) : Sees w size v n xs := by
  refine ⟨S.1, S.2.imp id ?_⟩
  rintro ⟨g, o, cap, rfl, hlt, hn, hc, hr⟩
  have e := M.kept.block g hlt (hF g rfl)
  exact ⟨g, o, cap, rfl, Nat.lt_of_lt_of_le hlt M.kept.size, hn, hc, rangeAt_of_block hr e⟩
/-- The only piece, at the end. -/
theorem Mem.upd1 {w0 w : World} {c c' : Chunk} {L : List Chunk} (M : Mem c.fp w0 w L) (i : Nat) (hi : L[i]? = some c') : Upd w0 c w c' :=
  ⟨M.kept, M.ok i c' hi, M.own i c' hi⟩
/-! ### The operations -/
def scalarT (P : Program) (t : TypeId) : Bool := match P.underlying t with | some d => !d.isRow | none => false
def rowT (P : Program) (t : TypeId) : Bool := match P.underlying t with | some d => d.isRow | none => false
theorem run_loadVar_scalar {P : Program} {t : TypeId} (h : scalarT P t = true) (w : World) (b o : Nat) (v : Value) (hv : w.cell? ⟨b, o, none⟩ = some v) : (loadVar t ⟨b, o, none⟩).run P w = .ok v w := by
  unfold scalarT at h
  cases hu : P.underlying t with
  | none => simp [hu] at h
  | some d =>
    have hagg : (isAgg t).run P w = .ok false w := by
      unfold isAgg
      rw [Sem.run_bind, run_underlying hu w]
      cases d <;> simp_all [TypeDesc.isRow]
    simp [loadVar, Sem.run_bind, hagg, Go.load, Sem.run, hv]
theorem wpW {P : Program} {ops : Array Oper} {rest : List Oper} {o : Oper} {a : Act} {w : World} {Q : Exit → Act → World → Prop} (hw : Region.wanted o (yielded ops a.tmps) = true)
    (h : ∀ K : Act → World → Prop, (∀ a w, wpList P ops Q rest a w → K a w) → o.wp P a w K Q) : wpList P ops Q (o :: rest) a w :=
  wpList_want hw (h _ fun _ _ h => h)
section
variable {P : Program} {ops : Array Oper} {rest : List Oper} {o : Oper} {a : Act} {w w0 : World} {Q : Exit → Act → World → Prop} {F : List Nat} {L : List Chunk}
theorem Mem.cellAt (M : Mem F w0 w L) (i : Nat) {g : Nat} {cs : List Value} (hi : L[i]? = some (.row g cs)) {off : Nat} {v : Value} (hv : cs[off]? = some v) : w.cell? ⟨g, off, none⟩ = some v := by
  have := (M.ok i _ hi).2.1 off v hv
  rwa [Nat.zero_add] at this
/-- A load of one cell. -/
theorem w_load (M : Mem F w0 w L) (i : Nat) (t : TypeId) (x : Operand) (ho : o.op = .load t x) {g off : Nat} {cs : List Value} (hi : L[i]? = some (.row g cs)) (hx : a.eval x = .pointer (some ⟨g, off, none⟩)) (hw : Region.wanted o (yielded ops a.tmps) = true)
    (ht : scalarT P t = true) {v : Value} (hv : cs[off]? = some v) (h : wpList P ops Q rest (a.put o.dst v) w) : wpList P ops Q (o :: rest) a w :=
  wpW hw fun _ hK => by
    unfold Oper.wp execOp
    simp only [ho, hx, Instr.loadAt, Instr.sureAddr, Sem.run_bind, Sem.run_pure, Result.andThen_ok, run_loadVar_scalar ht w g off v (M.cellAt i hi hv)]
    exact hK _ _ h
/-- A load of a struct or an array that lies in the midst of a row. -/
theorem w_loadA (M : Mem F w0 w L) (i : Nat) (t : TypeId) (x : Operand) (ho : o.op = .load t x) {g off : Nat} {cs : List Value} (hi : L[i]? = some (.row g cs)) (hx : a.eval x = .pointer (some ⟨g, off, none⟩)) (hw : Region.wanted o (yielded ops a.tmps) = true)
    (ht : rowT P t = true) (pre mid post : List Value) (hcs : cs = pre ++ (mid ++ post)) (hpre : pre.length = off) (hn : (P.info? t).map (·.size) = some mid.length) (h : wpList P ops Q rest (a.put o.dst (.agg mid.toArray)) w) : wpList P ops Q (o :: rest) a w :=
  wpW hw fun _ hK => by
    unfold rowT at ht
    cases hu : P.underlying t with
    | none => simp [hu] at ht
    | some d =>
      simp only [hu] at ht
      refine wp_load_mid t x ho g off hx mid d ?_ hu ht hn (hK _ _ h)
      intro j v hv
      refine M.cellAt i hi ?_
      have hj : j < mid.length := (List.getElem?_eq_some_iff.1 hv).1
      rw [hcs, ← hpre, List.getElem?_append_right (by omega), Nat.add_sub_cancel_left, List.getElem?_append_left hj]; exact hv
/-- The whole of a row. -/
theorem w_loadR (M : Mem F w0 w L) (i : Nat) (t : TypeId) (x : Operand) (ho : o.op = .load t x) {g : Nat} {cs : List Value} (hi : L[i]? = some (.row g cs)) (hx : a.eval x = .pointer (some ⟨g, 0, none⟩)) (hw : Region.wanted o (yielded ops a.tmps) = true)
    (ht : rowT P t = true) (hn : (P.info? t).map (·.size) = some cs.length) (h : wpList P ops Q rest (a.put o.dst (.agg cs.toArray)) w) : wpList P ops Q (o :: rest) a w :=
  w_loadA M i t x ho hi hx hw ht [] cs [] (by simp) rfl hn h
/-- Cells are written. -/
theorem upd_setCells {g : Nat} {cs : List Value} (h : (Chunk.row g cs).ok w) (pre mid post new : List Value) (hcs : cs = pre ++ (mid ++ post)) (hnew : new.length = mid.length) :
    Upd w (.row g cs) (w.setCells g pre.length new) (.row g (pre ++ (new ++ post))) := by
  refine ⟨Kept.grown (grownBy_setCells w g pre.length new), ⟨by rw [size_setCells]; exact h.1, ?_, ?_⟩, fun k hk => .inl hk⟩
  · have hth := h.2.2
    rw [hcs] at hth
    have hr := h.2.1
    rw [hcs] at hr
    refine rangeAt_append ?_ (rangeAt_append ?_ ?_)
    · refine World.rangeAt_setCells_apart ?_ _ _ _ (.inr (.inl (by omega)))
      have := rangeAt_take hr pre.length
      rwa [List.take_left'  rfl] at this
    · rw [Nat.zero_add]
      refine World.rangeAt_setCells_same _ _ _ _ ?_
      have := there_drop hth pre.length
      rw [Nat.zero_add] at this
      exact there_mono this (by simp; omega)
    · refine World.rangeAt_setCells_apart ?_ _ _ _ (.inr (.inr (by omega)))
      have := rangeAt_drop hr (pre.length + mid.length)
      rw [← List.append_assoc, List.drop_left' (by simp)] at this
      rw [hnew, Nat.add_assoc]; exact this
  · have := h.2.2
    rw [hcs] at this
    refine World.there_setCells (there_mono this ?_) _ _ _
    simp; omega
theorem setCells_one (w : World) (g o : Nat) (v : Value) : w.setCells g o [v] = w.setCell ⟨g, o, none⟩ v := by simp [World.setCells]
theorem upd_setCell {g off : Nat} {cs : List Value} (h : (Chunk.row g cs).ok w) (hlt : off < cs.length) (v : Value) : Upd w (.row g cs) (w.setCell ⟨g, off, none⟩ v) (.row g (cs.set off v)) := by
  have := upd_setCells h (cs.take off) [cs[off]] (cs.drop (off + 1)) [v] (by simp) rfl
  rw [List.length_take, Nat.min_eq_left (by omega), setCells_one] at this
  rwa [List.set_eq_take_append_cons_drop, if_pos hlt]
/-- A store of one cell. -/
theorem w_store (M : Mem F w0 w L) (i : Nat) (t : TypeId) (x y : Operand) (ho : o.op = .store t x y) {g off : Nat} {cs : List Value} (hi : L[i]? = some (.row g cs)) (hx : a.eval x = .pointer (some ⟨g, off, none⟩)) (hw : Region.wanted o (yielded ops a.tmps) = true)
    {v : Value} (hy : a.eval y = v) (h1 : v.oneCell' = true) (hc : v.cells = #[v]) (hn : (P.info? t).map (·.size) = some 1) (hlt : off < cs.length)
    (h : ∀ w' : World, Mem F w0 w' (L.set i (.row g (cs.set off v))) → wpList P ops Q rest (a.put o.dst undef) w') : wpList P ops Q (o :: rest) a w :=
  wpW hw fun _ hK => by
    have hok := M.ok i _ hi
    have hst := run_storeCells_mid (P := P) (w := w) (g := g) (o := off) [v] (by have := there_drop hok.2.2 off; rw [Nat.zero_add] at this; exact there_mono this (by simp; omega)) (by simpa using h1)
    cases hq : P.info? t with
    | none => simp [hq] at hn
    | some inf =>
      have hs : inf.size = 1 := by simpa [hq] using hn
      unfold Oper.wp execOp
      simp only [ho, hx, hy, Instr.storeAt, Instr.sureAddr, storeVar, Sem.run_bind, Sem.run_pure, Result.andThen_ok, sizeOf, typeInfo, run_program, hq, hs, hc]
      simp only [List.size_toArray, List.length_cons, List.length_nil, Nat.zero_add, ne_eq, not_true_eq_false, if_false, hst, Result.andThen_ok]
      rw [setCells_one]
      exact hK _ _ (h _ (M.upd i hi (upd_setCell hok hlt v)))
/-- A store of a struct or an array. -/
theorem w_storeA (M : Mem F w0 w L) (i : Nat) (t : TypeId) (x y : Operand) (ho : o.op = .store t x y) {g off : Nat} {cs : List Value} (hi : L[i]? = some (.row g cs)) (hx : a.eval x = .pointer (some ⟨g, off, none⟩)) (hw : Region.wanted o (yielded ops a.tmps) = true)
    {C : Array Value} (new : List Value) (hy : a.eval y = .agg C) (hC : C = new.toArray) (hn : (P.info? t).map (·.size) = some new.length) (h1 : ∀ v ∈ new, v.oneCell' = true) (pre mid post : List Value) (hcs : cs = pre ++ (mid ++ post)) (hpre : pre.length = off) (hmid : new.length = mid.length)
    (h : ∀ w' : World, Mem F w0 w' (L.set i (.row g (pre ++ (new ++ post)))) → wpList P ops Q rest (a.put o.dst undef) w') : wpList P ops Q (o :: rest) a w :=
  wpW hw fun _ hK => by
    subst hC
    have hok := M.ok i _ hi
    have hth := hok.2.2
    rw [hcs] at hth
    refine wp_store_mid t x y ho g off new.toArray hx hy ?_ (by simpa using hn) (all_oneCell_toArray h1) (hK _ _ (h _ ?_))
    · have := there_drop hth off
      rw [Nat.zero_add] at this
      exact there_mono this (by simp; omega)
    · have := M.upd i hi (upd_setCells hok pre mid post new hcs hmid)
      rw [hpre] at this
      simpa using this
/-- The whole of a row is stored. -/
theorem w_storeR (M : Mem F w0 w L) (i : Nat) (t : TypeId) (x y : Operand) (ho : o.op = .store t x y) {g : Nat} {cs : List Value} (hi : L[i]? = some (.row g cs)) (hx : a.eval x = .pointer (some ⟨g, 0, none⟩)) (hw : Region.wanted o (yielded ops a.tmps) = true)
    {C : Array Value} (new : List Value) (hy : a.eval y = .agg C) (hC : C = new.toArray) (hn : (P.info? t).map (·.size) = some new.length) (h1 : ∀ v ∈ new, v.oneCell' = true) (hl : new.length = cs.length)
    (h : ∀ w' : World, Mem F w0 w' (L.set i (.row g new)) → wpList P ops Q rest (a.put o.dst undef) w') : wpList P ops Q (o :: rest) a w :=
  w_storeA M i t x y ho hi hx hw new hy hC hn h1 [] cs [] (by simp) rfl hl (fun w' M' => h w' (by simpa using M'))
theorem new_row (w : World) (C : Array Value) (t : TypeId) : (Chunk.row w.heap.size C.toList).ok (w.alloc (.cells C t)) :=
  ⟨by simp, rangeAt_new w C t (0, 0), there_new w C t _ (by simp)⟩
theorem Mem.alloc (M : Mem F w0 w L) (C : Array Value) (t : TypeId) : Mem F w0 (w.alloc (.cells C t)) (.row w.heap.size C.toList :: L) :=
  M.add _ (Kept.alloc _ _) (new_row w C t) (by simp [Chunk.fp])
/-- A new variable. -/
theorem w_alloc (M : Mem F w0 w L) (t : TypeId) (ho : o.op = .alloc t) (hw : Region.wanted o (yielded ops a.tmps) = true) (z : Value) (cs : List Value) (hz : (P.info? t).bind (·.zero) = some z) (hc : z.cells = cs.toArray)
    (h : ∀ (g : Nat) (w' : World), Mem F w0 w' (.row g cs :: L) → wpList P ops Q rest (a.put o.dst (.pointer (some ⟨g, 0, none⟩))) w') : wpList P ops Q (o :: rest) a w :=
  wpW hw fun _ hK => by
    cases hq : P.info? t with
    | none => simp [hq] at hz
    | some inf =>
      have hzz : inf.zero = some z := by simpa [hq] using hz
      have hr : (Instr.alloc t true (.tuple #[])).run P w = .ok (.pointer (some ⟨w.heap.size, 0, none⟩)) (w.alloc (.cells z.cells t)) := by
        simp only [Instr.alloc, zeroValue, typeInfo, Sem.run_bind, run_program, hq, Sem.run_pure, Result.andThen_ok, hzz]; rfl
      unfold Oper.wp execOp
      simp only [ho, Sem.run_bind, hr, Result.andThen_ok]
      exact hK _ _ (h _ _ (by have := M.alloc z.cells t; rw [hc] at this ⊢; exact this))
/-- A value is boxed. -/
theorem w_box (M : Mem F w0 w L) (t : TypeId) (x : Operand) (ho : o.op = .box t x) (hw : Region.wanted o (yielded ops a.tmps) = true) (v : Value) (hx : a.eval x = v) (cs : List Value) (hc : v.cells = cs.toArray)
    (h : ∀ (g : Nat) (w' : World), Mem F w0 w' (.row g cs :: L) → wpList P ops Q rest (a.put o.dst (.pointer (some ⟨g, 0, none⟩))) w') : wpList P ops Q (o :: rest) a w :=
  wpW hw fun _ hK => by
    have hr : (Instr.box t v).run P w = .ok (.pointer (some ⟨w.heap.size, 0, none⟩)) (w.alloc (.cells v.cells t)) := rfl
    unfold Oper.wp execOp
    simp only [ho, hx, Sem.run_bind, hr, Result.andThen_ok]
    exact hK _ _ (h _ _ (by have := M.alloc v.cells t; rw [hc] at this ⊢; exact this))
/-- A slice literal. -/
theorem w_buildSlice (M : Mem F w0 w L) {t e : TypeId} {size bytes : Nat} (T : SliceT P t e size bytes) (len : Nat) (parts : Array (Nat × Operand)) (ho : o.op = .buildSlice t len parts) (hw : Region.wanted o (yielded ops a.tmps) = true) (hlen : 0 < len ∧ len * size ≤ 16777216) (z : Value) (hz : (P.info? e).bind (·.zero) = some z) (cs : List Value)
    (hf : Instr.fill (fun i => some (i * size, size)) ((Array.range (len * size)).map (z.cells[· % z.cells.size]!)) (parts.map fun (i, x) => (i, a.eval x)).toList = some cs.toArray)
    (h : ∀ (g : Nat) (w' : World), Mem F w0 w' (.row g cs :: L) → wpList P ops Q rest (a.put o.dst (.slice (some ⟨g, 0, none⟩) len len)) w') : wpList P ops Q (o :: rest) a w :=
  wpW hw fun _ hK => by
    obtain ⟨ht, ⟨i, z', hi, hz', hsize, hby, hzs⟩, hsz⟩ := T
    have ez : z' = z := by simpa [hi, hz'] using hz
    subst ez hsize
    have hr := run_buildSlice (P := P) w t e len _ cs.toArray i z' ht hi hz' (by omega) (by have := Nat.mul_pos hlen.1 hsz; omega) hf
    unfold Oper.wp execOp
    simp only [ho, Sem.run_bind, hr, Result.andThen_ok]
    exact hK _ _ (h _ _ (M.alloc cs.toArray e))
theorem foldl_set (l : List Value) : ∀ (k : Nat) (C : Array Value), k + l.length ≤ C.size → ((l.zipIdx k).foldl (fun cs x => cs.setIfInBounds x.2 x.1) C).toList = C.toList.take k ++ l ++ C.toList.drop (k + l.length) := by
  induction l with
  | nil => intro k C h; simp
  | cons v r ih =>
    intro k C h
    simp only [List.length_cons] at h
    rw [List.zipIdx_cons, List.foldl_cons, ih (k + 1) _ (by simp; omega)]
    have hk : k < C.toList.length := by simpa using (by omega : k < C.size)
    rw [Array.toList_setIfInBounds, List.take_set, List.take_succ_eq_append_getElem hk, List.drop_set_of_lt (by omega), List.set_append_right _ _ (by simp; omega)]
    simp only [List.length_take, Nat.min_eq_left (Nat.le_of_lt hk), Nat.sub_self, List.set_cons_zero, List.length_cons]
    rw [show k + 1 + r.length = k + (r.length + 1) by omega]
    simp
theorem fill_one (size : Nat) (C : Array Value) (hC : C.size = size) (v : Value) (hv : v.cells.size = size) : Instr.fill (fun i => some (i * size, size)) C [(0, v)] = some v.cells := by
  have e := foldl_set v.cells.toList 0 C (by simp [hC, hv])
  have e2 : (v.cells.zipIdx.foldl (fun cs x => cs.setIfInBounds (0 * size + x.2) x.1) C) = v.cells := by
    apply Array.ext'
    rw [← Array.foldl_toList]
    simp only [Nat.zero_mul, Nat.zero_add, Array.toList_zipIdx]
    rw [e]
    simp [hv, hC]
  simp only [Instr.fill, Nat.zero_mul, Nat.zero_add, hv, hC]
  simp only [Nat.zero_mul, Nat.zero_add] at e2
  have hz : v.cells.size = v.cells.zipIdx.size := by simp
  simp
  rw [hz]
  exact e2
/-- A slice literal of one element. -/
theorem w_buildSlice1 (M : Mem F w0 w L) {t e : TypeId} {size bytes : Nat} (T : SliceT P t e size bytes) (hsm : size ≤ 1000) (x : Operand) (ho : o.op = .buildSlice t 1 #[(0, x)]) (hw : Region.wanted o (yielded ops a.tmps) = true) {v : Value} (hx : a.eval x = v) (cs : List Value) (hc : v.cells = cs.toArray) (hcs : cs.length = size)
    (h : ∀ (g : Nat) (w' : World), Mem F w0 w' (.row g cs :: L) → wpList P ops Q rest (a.put o.dst (.slice (some ⟨g, 0, none⟩) 1 1)) w') : wpList P ops Q (o :: rest) a w := by
  have T' := T
  obtain ⟨ht, ⟨i, z', hi, hz', hsize, hby, hzs⟩, hsz⟩ := T'
  refine w_buildSlice M T 1 _ ho hw ⟨by omega, by omega⟩ z' (by simp [hi, hz']) cs ?_ h
  have := fill_one size ((Array.range (1 * size)).map (z'.cells[· % z'.cells.size]!)) (by simp) v (by rw [hc]; simpa using hcs)
  rw [hc] at this
  subst hx
  simpa using this
theorem Own.form0 {base size : Nat} {v : Value} {n : Nat} {xs : List Value} (h : Own w base size v n xs) : ∃ a cap, v = .slice a n cap := by
  obtain ⟨a, c, e, _⟩ := h.sees.form; exact ⟨a, c, e⟩
/-- append of what is read at another place. -/
theorem w_append (M : Mem F w0 w L) (i : Nat) {t e : TypeId} {size bytes : Nat} (T : SliceT P t e size bytes) (s x : Operand) (u : TypeId) (ho : o.op = .call { callee := .builtin .append, args := #[s, x], argTypes := #[t, u] }) (hu : P.underlying u = some .string ∨ ∃ e', P.underlying u = some (.slice e'))
    (hw : Region.wanted o (yielded ops a.tmps) = true) {v : Value} {n : Nat} {xs : List Value} (hi : L[i]? = some (.sl size v n xs)) (hs : a.eval s = v) {xv : Value} (hx : a.eval x = xv) (m : Nat) (news : List Value) (hsrc : Src P w size xv m news)
    (h63 : n + m ≤ maxLen) (hbytes : (n + m) * bytes ≤ 140737488355328)
    (h : ∀ (p : Option Addr) (cap : Nat) (w' : World), Mem F w0 w' (L.set i (.sl size (.slice p (n + m) cap) (n + m) (xs ++ news))) → wpList P ops Q rest (a.put o.dst (.slice p (n + m) cap)) w') : wpList P ops Q (o :: rest) a w :=
  wpW hw fun _ hK => by
    refine wp_append T s x u ho hu 0 v n xs hs (M.ok i _ hi) xv m news hx hsrc h63 hbytes (Nat.zero_le _) ?_
    intro v' w' hown hg hb _
    obtain ⟨p, cap, rfl⟩ := hown.form0
    refine hK _ _ (h p cap w' (M.upd i hi ⟨Kept.grown hg, hown, fun k hk => ?_⟩))
    simp only [Chunk.fp, Option.mem_toList] at hk ⊢
    rcases hb with hb | hb
    · exact .inl (hb ▸ hk)
    · rw [hb] at hk; cases hk; exact .inr (Nat.le_refl _)
/-- append of elements that were laid into a row of their own just ahead. -/
theorem w_append_new {g : Nat} {news : List Value} (M : Mem F w0 w (.row g news :: L)) (i : Nat) {t e : TypeId} {size bytes : Nat} (T : SliceT P t e size bytes) (s x : Operand) (ho : o.op = .call { callee := .builtin .append, args := #[s, x], argTypes := #[t, t] })
    (hw : Region.wanted o (yielded ops a.tmps) = true) {v : Value} {n : Nat} {xs : List Value} (hi : L[i]? = some (.sl size v n xs)) (hs : a.eval s = v) {m : Nat} (hx : a.eval x = .slice (some ⟨g, 0, none⟩) m m) (hm : news.length = m * size) (h1 : ∀ q ∈ news, q.oneCell' = true)
    (hmm : m ≤ 1000000) (h63 : n + m ≤ maxLen) (hbytes : (n + m) * bytes ≤ 140737488355328)
    (h : ∀ (p : Option Addr) (cap : Nat) (w' : World), Mem F w0 w' (L.set i (.sl size (.slice p (n + m) cap) (n + m) (xs ++ news))) → wpList P ops Q rest (a.put o.dst (.slice p (n + m) cap)) w') : wpList P ops Q (o :: rest) a w := by
  have hok := M.ok 0 _ rfl
  refine w_append M.tail i T s x t ho (.inr ⟨e, T.ht⟩) hw hi hs hx m news (Src_of_sees ⟨hm, .inr ⟨g, 0, m, rfl, hok.1, Nat.le_refl _, by simp only [maxLen]; omega, hok.2.1⟩⟩ h1) h63 hbytes h
/-- string(b), b owned. -/
theorem w_string (M : Mem F w0 w L) (i : Nat) (src dst e : TypeId) (x : Operand) (ho : o.op = .convert src dst x) (hw : Region.wanted o (yielded ops a.tmps) = true) {v : Value} {l : List UInt8} {n : Nat} (hi : L[i]? = some (.sl 1 v n (bs l))) (hn : n = l.length) (hx : a.eval x = v)
    (hs : P.underlying src = some (.slice e)) (he : P.underlying e = some (.int .u8)) (hd : P.underlying dst = some .string)
    (h : wpList P ops Q rest (a.put o.dst (.string (mkS l))) w) : wpList P ops Q (o :: rest) a w :=
  wpW hw fun _ hK => by
    subst hn
    have hr := SeesB.run_string (P := P) (l := l) (Own.sees (M.ok i _ hi)) src dst e hs he hd w (grownBy_refl _ _)
    unfold Oper.wp execOp
    simp only [ho, hx, Sem.run_bind, hr, Result.andThen_ok]
    exact hK _ _ h
theorem row_sees {g off n cap : Nat} {l : List UInt8} (h : (Chunk.row g (bs l)).ok w) (ho : off + n ≤ l.length) (hc : n ≤ cap) (hm : cap ≤ maxLen) : SeesB w (.slice (some ⟨g, off, none⟩) n cap) ((l.drop off).take n) := by
  have hl : ((l.drop off).take n).length = n := by simp; omega
  refine ⟨by simp, .inr ⟨g, off, cap, by rw [hl], h.1, by omega, hm, ?_⟩⟩
  have := rangeAt_take (rangeAt_drop h.2.1 off) n
  rw [Nat.zero_add] at this
  rwa [List.map_take, List.map_drop]
/-- string(a[i:k]), a an array. -/
theorem w_stringR (M : Mem F w0 w L) (i : Nat) (src dst e : TypeId) (x : Operand) (ho : o.op = .convert src dst x) (hw : Region.wanted o (yielded ops a.tmps) = true) {g : Nat} {l : List UInt8} (hi : L[i]? = some (.row g (bs l))) {off n cap : Nat} (hx : a.eval x = .slice (some ⟨g, off, none⟩) n cap)
    (hb : off + n ≤ l.length) (hc : n ≤ cap) (hm : cap ≤ maxLen) (hs : P.underlying src = some (.slice e)) (he : P.underlying e = some (.int .u8)) (hd : P.underlying dst = some .string)
    (h : wpList P ops Q rest (a.put o.dst (.string (mkS ((l.drop off).take n)))) w) : wpList P ops Q (o :: rest) a w :=
  wpW hw fun _ hK => by
    have hr := SeesB.run_string (P := P) (row_sees (M.ok i _ hi) hb hc hm) src dst e hs he hd w (grownBy_refl _ _)
    unfold Oper.wp execOp
    simp only [ho, hx, Sem.run_bind, hr, Result.andThen_ok]
    exact hK _ _ h
/-- string(a[:]), a an array. -/
theorem w_stringW (M : Mem F w0 w L) (i : Nat) (src dst e : TypeId) (x : Operand) (ho : o.op = .convert src dst x) (hw : Region.wanted o (yielded ops a.tmps) = true) {g : Nat} {l : List UInt8} (hi : L[i]? = some (.row g (bs l))) {n : Nat} (hx : a.eval x = .slice (some ⟨g, 0, none⟩) n n)
    (hb : l.length = n) (hm : n ≤ maxLen) (hs : P.underlying src = some (.slice e)) (he : P.underlying e = some (.int .u8)) (hd : P.underlying dst = some .string)
    (h : wpList P ops Q rest (a.put o.dst (.string (mkS l))) w) : wpList P ops Q (o :: rest) a w :=
  w_stringR M i src dst e x ho hw hi hx (by omega) (Nat.le_refl _) hm hs he hd (by rw [List.drop_zero, List.take_of_length_le (by omega)]; exact h)
/-- copy into an array's cells. -/
theorem w_copy (M : Mem F w0 w L) (i : Nat) {t e : TypeId} {size bytes : Nat} (T : SliceT P t e size bytes) (d x : Operand) (u : TypeId) (ho : o.op = .call { callee := .builtin .copy, args := #[d, x], argTypes := #[t, u] }) (hw : Region.wanted o (yielded ops a.tmps) = true)
    {g off dl dc : Nat} {cs : List Value} (hi : L[i]? = some (.row g cs)) (hd : a.eval d = .slice (some ⟨g, off, none⟩) dl dc) {xv : Value} (hx : a.eval x = xv) (m : Nat) (news : List Value) (hsrc : Src P w size xv m news)
    (k : Nat) (hk : k = Nat.min m dl) (hlen : off + k * size ≤ cs.length)
    (h : ∀ w' : World, Mem F w0 w' (L.set i (.row g (cs.take off ++ (news.take (k * size) ++ cs.drop (off + k * size))))) → wpList P ops Q rest (a.put o.dst (.int .i64 k)) w') : wpList P ops Q (o :: rest) a w :=
  wpW hw fun _ hK => by
    have hok := M.ok i _ hi
    have hth := there_drop hok.2.2 off
    rw [Nat.zero_add] at hth
    have hr := run_copy_any (P := P) (w := w) T u o.type g off dl dc xv m news hsrc k hk (there_mono hth (by omega))
    unfold Oper.wp execOp
    simp only [ho, resolve, invoke, builtin, Sem.run_bind, Sem.run_pure, Result.andThen_ok, List.map_toArray, List.map_cons, List.map_nil, hd, hx, hr]
    have hkm : k ≤ m := by rw [hk]; exact Nat.min_le_left _ _
    have hl : (news.take (k * size)).length = k * size := by
      rw [List.length_take, hsrc.1]; exact Nat.min_eq_left (Nat.mul_le_mul_right _ hkm)
    have U := upd_setCells hok (cs.take off) ((cs.drop off).take (k * size)) (cs.drop (off + k * size)) (news.take (k * size)) (by rw [← List.drop_drop, List.take_append_drop, List.take_append_drop]) (by rw [hl, List.length_take, List.length_drop, Nat.min_eq_left (by omega)])
    rw [List.length_take, Nat.min_eq_left (by omega)] at U
    exact hK _ _ (h _ (M.upd i hi U))
/-- A guard that is not decided yet. -/
theorem w_guard {dst : Option Tmp} {op : Op} {ty : TypeId} {pos : String} {after : Array Edge} {j : Nat} {want b : Bool} (hb : yielded ops a.tmps j = some b)
    (h1 : b = want → wpList P ops Q (Oper.mk dst op ty pos after none :: rest) a w) (h2 : b = (!want) → wpList P ops Q rest (a.put dst undef) w) : wpList P ops Q (Oper.mk dst op ty pos after (some (j, want)) :: rest) a w := by
  by_cases e : b = want
  · have h := h1 e
    unfold wpList at h ⊢
    rw [if_pos (by simp [Region.wanted])] at h
    rw [if_pos (by simp [Region.wanted, hb, e])]
    exact h
  · have h := h2 (by cases b <;> cases want <;> simp_all)
    unfold wpList
    rw [if_neg (by simp [Region.wanted, hb, e])]
    exact h
end
end TL
end Go
namespace Go
namespace TL
open Go.RowKit
section
variable {P : Program} {ops : Array Oper} {rest : List Oper} {o : Oper} {a : Act} {w w0 : World} {Q : Exit → Act → World → Prop} {F : List Nat} {L : List Chunk}
theorem getD_some {l : List UInt8} {i : Nat} (h : i < l.length) : (bs l)[i]? = some (.int .u8 (I8 (l.getD i 0))) := by
  rw [bs, List.getElem?_map, List.getD_eq_getElem?_getD, List.getElem?_eq_getElem h]; rfl
/-- A byte of an array. -/
theorem w_loadB (M : Mem F w0 w L) (i : Nat) (t : TypeId) (x : Operand) (ho : o.op = .load t x) {g off : Nat} {l : List UInt8} (hi : L[i]? = some (.row g (bs l))) (hx : a.eval x = .pointer (some ⟨g, off, none⟩)) (hw : Region.wanted o (yielded ops a.tmps) = true)
    (ht : scalarT P t = true) (hlt : off < l.length) (h : wpList P ops Q rest (a.put o.dst (.int .u8 (I8 (l.getD off 0)))) w) : wpList P ops Q (o :: rest) a w :=
  w_load M i t x ho hi hx hw ht (getD_some hlt) h
/-- A whole array of bytes. -/
theorem w_loadH (M : Mem F w0 w L) (i : Nat) (t : TypeId) (x : Operand) (ho : o.op = .load t x) {g : Nat} {l : List UInt8} (hi : L[i]? = some (.row g (bs l))) (hx : a.eval x = .pointer (some ⟨g, 0, none⟩)) (hw : Region.wanted o (yielded ops a.tmps) = true)
    (ht : rowT P t = true) {n : Nat} (hl : l.length = n) (hn : (P.info? t).map (·.size) = some n) (h : wpList P ops Q rest (a.put o.dst (.agg (bs l).toArray)) w) : wpList P ops Q (o :: rest) a w :=
  w_loadR M i t x ho hi hx hw ht (by rw [bs_length, hl]; exact hn) h
theorem w_storeB (M : Mem F w0 w L) (i : Nat) (t : TypeId) (x y : Operand) (ho : o.op = .store t x y) {g off : Nat} {l : List UInt8} (hi : L[i]? = some (.row g (bs l))) (hx : a.eval x = .pointer (some ⟨g, off, none⟩)) (hw : Region.wanted o (yielded ops a.tmps) = true)
    {b : UInt8} (hy : a.eval y = .int .u8 (I8 b)) (hn : (P.info? t).map (·.size) = some 1) (hlt : off < l.length)
    (h : ∀ w' : World, Mem F w0 w' (L.set i (.row g (bs (l.set off b)))) → wpList P ops Q rest (a.put o.dst undef) w') : wpList P ops Q (o :: rest) a w :=
  w_store M i t x y ho hi hx hw hy rfl rfl hn (by rw [bs_length]; exact hlt) (fun w' M' => h w' (by rw [bs_set]; exact M'))
theorem w_storeH (M : Mem F w0 w L) (i : Nat) (t : TypeId) (x y : Operand) (ho : o.op = .store t x y) {g : Nat} {l : List UInt8} (hi : L[i]? = some (.row g (bs l))) (hx : a.eval x = .pointer (some ⟨g, 0, none⟩)) (hw : Region.wanted o (yielded ops a.tmps) = true)
    {m : List UInt8} (hy : a.eval y = .agg (m.map vb).toArray) {n : Nat} (hm : m.length = n) (hn : (P.info? t).map (·.size) = some n) (hl : l.length = n)
    (h : ∀ w' : World, Mem F w0 w' (L.set i (.row g (bs m))) → wpList P ops Q rest (a.put o.dst undef) w') : wpList P ops Q (o :: rest) a w :=
  w_storeR M i t x y ho hi hx hw (bs m) hy rfl (by rw [bs_length, hm]; exact hn) (bs_one _) (by simp [bs_length, hm, hl]) h
theorem w_strip {dst : Option Tmp} {op : Op} {ty : TypeId} {pos : String} {after : Array Edge} {j : Nat} {want b : Bool} (hb : yielded ops a.tmps j = some b) (hl : b = want)
    (h : wpList P ops Q (Oper.mk dst op ty pos after none :: rest) a w) : wpList P ops Q (Oper.mk dst op ty pos after (some (j, want)) :: rest) a w := by
  subst hl
  unfold wpList at h ⊢
  rw [if_pos (by simp [Region.wanted])] at h
  rw [if_pos (by simp [Region.wanted, hb])]
  exact h
theorem w_lit {dst : Option Tmp} {op : Op} {ty : TypeId} {pos : String} {after : Array Edge} {j : Nat} {want b : Bool} (c : Bool) (_hb : yielded ops a.tmps j = some b) (_hl : b = c)
    (h : wpList P ops Q (Oper.mk dst op ty pos after (some (j, want)) :: rest) a w) : wpList P ops Q (Oper.mk dst op ty pos after (some (j, want)) :: rest) a w := h
theorem w_case {dst : Option Tmp} {op : Op} {ty : TypeId} {pos : String} {after : Array Edge} {j : Nat} {want b : Bool} (_hb : yielded ops a.tmps j = some b)
    (h1 : b = true → wpList P ops Q (Oper.mk dst op ty pos after (some (j, want)) :: rest) a w) (h0 : b = false → wpList P ops Q (Oper.mk dst op ty pos after (some (j, want)) :: rest) a w) : wpList P ops Q (Oper.mk dst op ty pos after (some (j, want)) :: rest) a w := by
  cases b
  · exact h0 rfl
  · exact h1 rfl
end
end TL
end Go
namespace Go
namespace TL
theorem ev_tmp {l : List Value} {d : List Deferred} {n : Nat} {v : Value} (h : l[n]? = some v) : Act.eval ⟨l.toArray, d⟩ (.tmp n) = v := by
  simp [Act.eval, h]
theorem ev_const {a : Act} {v : Value} : a.eval (.const v) = v := rfl
theorem w_at {P : Program} {ops : Array Oper} {rest : List Oper} {o : Oper} {a : Act} {w : World} {Q : Exit → Act → World → Prop} (t : TypeId) (x : Operand) (_ho : o.op = .load t x) {v : Value} (hx : a.eval x = v)
    (h : a.eval x = v → wpList P ops Q (o :: rest) a w) : wpList P ops Q (o :: rest) a w := h hx
theorem w_at2 {P : Program} {ops : Array Oper} {rest : List Oper} {o : Oper} {a : Act} {w : World} {Q : Exit → Act → World → Prop} (t : TypeId) (x y : Operand) (_ho : o.op = .store t x y) {v u : Value} (hx : a.eval x = v) (hy : a.eval y = u)
    (h : a.eval x = v → a.eval y = u → wpList P ops Q (o :: rest) a w) : wpList P ops Q (o :: rest) a w := h hx hy
end TL
end Go

/- Texts as lists of bytes, in the walk. No conditions but those each law names. -/
namespace Go
namespace TL
open Go.RowKit
attribute [go_sem] mkS_size mkS_toList mkS_append
@[go_sem] theorem mkS_fold (l : List UInt8) : ByteArray.mk (List.toArray l) = mkS l := rfl
theorem mkS_extract (l : List UInt8) (i j : Nat) : (mkS l).extract i j = mkS ((l.take j).drop i) := by
  apply ByteArray.ext; apply Array.ext'; simp [mkS, ByteArray.data_extract, List.extract, List.drop_take]
@[go_sem high] theorem mkS_extract0 (l : List UInt8) (j : Nat) : (mkS l).extract 0 j = mkS (l.take j) := by rw [mkS_extract, List.drop_zero]
@[go_sem high] theorem mkS_extractE (l : List UInt8) (i : Nat) : (mkS l).extract i l.length = mkS (l.drop i) := by rw [mkS_extract, List.take_length]
@[go_sem] theorem mkS_extractM (l : List UInt8) (i j : Nat) : (mkS l).extract i j = mkS ((l.take j).drop i) := mkS_extract l i j
/-- A text's byte, in a word that is closed to the walk. -/
def bt (l : List UInt8) (i : Nat) : UInt8 := l.getD i 0
@[go_sem] theorem mkS_bt (l : List UInt8) (k : Nat) (h : k < (mkS l).size) : (mkS l)[k] = bt l k := by
  have hl : k < l.length := by rwa [mkS_size] at h
  rw [bt, List.getD_eq_getElem?_getD, List.getElem?_eq_getElem hl]; rfl
theorem I8_bt (l : List UInt8) (k : Nat) : I8 (bt l k) = ((l.getD k 0).toNat : Int) := rfl
@[go_sem ↓] theorem run_index_mkS {P : Program} (w : World) (t : TypeId) (l : List UInt8) (k : IntKind) (i : Int) (hu : P.underlying t = some .string) (h0 : 0 ≤ i) (h1 : i < l.length) :
    (Instr.index t (.string (mkS l)) (.int k i)).run P w = .ok (.int .u8 (I8 (bt l i.toNat))) w := by
  have hs : i.toNat < (mkS l).size := by rw [mkS_size]; omega
  have hl : i.toNat < l.length := by omega
  have e : (mkS l)[i.toNat]? = some (l.getD i.toNat 0) := by
    rw [getElem?_pos (mkS l) i.toNat hs, List.getD_eq_getElem?_getD, List.getElem?_eq_getElem hl]; rfl
  simp only [Instr.index, asIntOf, Sem.run_bind, Sem.run_pure, Result.andThen_ok, run_underlying hu]
  simp only [h0, if_true, e]
  rfl
section
variable {P : Program} {ops : Array Oper} {rest : List Oper} {o : Oper} {a : Act} {w w0 : World} {Q : Exit → Act → World → Prop} {F : List Nat} {L : List Chunk}
/-- make([]byte, n). -/
theorem w_makeB (M : Mem F w0 w L) (t : TypeId) (x y : Operand) (ho : o.op = .makeSlice t x y) (hw : Region.wanted o (yielded ops a.tmps) = true) (n : Nat) {kl kc : IntKind} {m m' : Int} (hx : a.eval x = .int kl m) (hy : a.eval y = .int kc m') (hm : m = (n : Nat)) (hm' : m' = (n : Nat)) {e : TypeId} (ht : P.underlying t = some (.slice e)) (hz : (P.info? e).bind (·.zero) = some (.int .u8 0)) (hs : (P.info? e).map (fun i => (i.size, i.bytes)) = some (1, 1)) (hn : n ≤ 16777216)
    (h : ∀ (g : Nat) (w' : World), Mem F w0 w' (.row g (bs (List.replicate n 0)) :: L) → wpList P ops Q rest (a.put o.dst (.slice (some ⟨g, 0, none⟩) n n)) w') : wpList P ops Q (o :: rest) a w :=
  wpW hw fun _ hK => by
    subst hm hm'
    cases hq : P.info? e with
    | none => simp [hq] at hz
    | some inf =>
      have hzz : inf.zero = some (.int .u8 0) := by simpa [hq] using hz
      have hss : inf.size = 1 ∧ inf.bytes = 1 := by simpa [hq] using hs
      have hr := run_makeSlice (P := P) (w := w) t e inf (.int .u8 0) ht hq hzz kl kc n n (by omega) (Int.le_refl _) (by rw [hss.1]; simp; omega) (by rw [hss.2]; omega) (by omega)
      have e1 : madeCells (Value.int .u8 0).cells ((n : Int).toNat * inf.size) = (bs (List.replicate n 0)).toArray := by
        rw [hss.1]
        apply Array.ext'
        simp [madeCells, bs, vb, I8, Value.cells]
        apply List.ext_getElem
        · simp
        · intro i h1 h2; simp [Nat.mod_one]
      rw [e1] at hr
      unfold Oper.wp execOp
      simp only [ho, hx, hy, Sem.run_bind, hr, Result.andThen_ok]
      refine hK _ _ ?_
      have := h _ _ (M.alloc (bs (List.replicate n 0)).toArray e)
      simpa using this
end
theorem eqInRow {P : Program} {t e : TypeId} {n : Nat} (hu : P.underlying t = some (.array n e)) (he : P.underlying e = some (.int .u8)) (hc : P.cellsOf e = 1) (l m : List UInt8) (hl : l.length = n) (hm : m.length = n) (w : World) : (Op.equalIn 10000 t (.agg (bs l).toArray) (.agg (bs m).toArray)).run P w = .ok (l == m) w := by
  obtain ⟨i, hi⟩ := info_of_underlying he
  have := run_equalIn_array w 9999 (bs l).toArray (bs m).toArray hu hi
  unfold bs at this ⊢
  rw [hc, run_eqItemsB he 9998 l m (by omega) w (List.range n) (fun i hi => by rw [hl]; exact List.mem_range.1 hi)] at this
  rw [← hl, all_range_eq l m (by omega)] at this
  exact this
/-- What is written byte by byte. -/
theorem setTake (l : List UInt8) (n k : Nat) (hl : l.length = n) (hk : k < n) : (l.take k ++ List.replicate (n - k) 0).set k (l.getD k 0) = l.take (k + 1) ++ List.replicate (n - (k + 1)) 0 := by
  rw [List.set_append_right _ _ (by simp; omega)]
  simp only [List.length_take, Nat.min_eq_left (show k ≤ l.length by omega), Nat.sub_self]
  rw [List.take_succ_eq_append_getElem (by omega), List.append_assoc, show n - k = (n - (k + 1)) + 1 by omega, List.replicate_succ, List.set_cons_zero, List.getD_eq_getElem?_getD, List.getElem?_eq_getElem (by omega)]
  rfl
end TL
end Go
namespace Go
namespace TL
open Go.RowKit
section
variable {P : Program} {ops : Array Oper} {rest : List Oper} {o : Oper} {a : Act} {w w0 : World} {Q : Exit → Act → World → Prop} {F : List Nat} {L : List Chunk}
/-- A slice that has elements lies somewhere. -/
theorem Mem.slAddr (M : Mem F w0 w L) (i : Nat) {size n cap : Nat} {q : Option Addr} {m : Nat} {xs : List Value} (hi : L[i]? = some (.sl size (.slice q m cap) n xs)) (hn : 0 < n) : ∃ g o, q = some ⟨g, o, none⟩ := by
  rcases (M.ok i _ hi).2 with ⟨_, h0⟩ | ⟨g, o, c, hv, _⟩
  · omega
  · injection hv with h1 h2 h3; exact ⟨g, o, h1⟩
theorem Mem.slCap (M : Mem F w0 w L) (i : Nat) {size n cap : Nat} {q : Option Addr} {m : Nat} {xs : List Value} (hi : L[i]? = some (.sl size (.slice q m cap) n xs)) : m = n ∧ n ≤ cap ∧ cap ≤ maxLen ∧ xs.length = n * size := by
  have h := M.ok i _ hi
  rcases h.2 with ⟨hv, h0⟩ | ⟨g, o, c, hv, _, _, h1, h2, _⟩
  · injection hv with _ e1 e2; exact ⟨by omega, by omega, by omega, h.1⟩
  · injection hv with _ e1 e2; exact ⟨e1, by omega, by omega, h.1⟩
theorem Mem.slCell (M : Mem F w0 w L) (i : Nat) {size n m cap g so : Nat} {xs : List Value} (hi : L[i]? = some (.sl size (.slice (some ⟨g, so, none⟩) m cap) n xs)) {j : Nat} {v : Value} (hv : xs[j]? = some v) : w.cell? ⟨g, so + j, none⟩ = some v := by
  rcases (M.ok i _ hi).2 with ⟨h0, _⟩ | ⟨g', o', c, hv', _, _, _, _, hr, _⟩
  · cases h0
  · injection hv' with h1 _ _; injection h1 with h1; injection h1 with h1 h2; subst h1; subst h2; exact hr j v hv
/-- An element of one cell. -/
theorem w_loadS (M : Mem F w0 w L) (i : Nat) (t : TypeId) (x : Operand) (ho : o.op = .load t x) {size n m cap g so off : Nat} {xs : List Value} (hi : L[i]? = some (.sl size (.slice (some ⟨g, so, none⟩) m cap) n xs)) (hx : a.eval x = .pointer (some ⟨g, off, none⟩)) (hw : Region.wanted o (yielded ops a.tmps) = true)
    (ht : scalarT P t = true) (j : Nat) (hoff : off = so + j) {v : Value} (hv : xs[j]? = some v) (h : wpList P ops Q rest (a.put o.dst v) w) : wpList P ops Q (o :: rest) a w :=
  wpW hw fun _ hK => by
    subst hoff
    unfold Oper.wp execOp
    simp only [ho, hx, Instr.loadAt, Instr.sureAddr, Sem.run_bind, Sem.run_pure, Result.andThen_ok, run_loadVar_scalar ht w g _ v (M.slCell i hi hv)]
    exact hK _ _ h
/-- An element that is a struct. -/
theorem w_loadSA (M : Mem F w0 w L) (i : Nat) (t : TypeId) (x : Operand) (ho : o.op = .load t x) {size n m cap g so off : Nat} {xs : List Value} (hi : L[i]? = some (.sl size (.slice (some ⟨g, so, none⟩) m cap) n xs)) (hx : a.eval x = .pointer (some ⟨g, off, none⟩)) (hw : Region.wanted o (yielded ops a.tmps) = true)
    (ht : rowT P t = true) (j : Nat) (hoff : off = so + j) (cs : List Value) (hcs : ∀ k v, cs[k]? = some v → xs[j + k]? = some v) (hn : (P.info? t).map (·.size) = some cs.length) (h : wpList P ops Q rest (a.put o.dst (.agg cs.toArray)) w) : wpList P ops Q (o :: rest) a w :=
  wpW hw fun _ hK => by
    subst hoff
    unfold rowT at ht
    cases hu : P.underlying t with
    | none => simp [hu] at ht
    | some d =>
      simp only [hu] at ht
      refine wp_load_mid t x ho g _ hx cs d ?_ hu ht hn (hK _ _ h)
      intro k v hv
      rw [Nat.add_assoc]
      exact M.slCell i hi (hcs k v hv)
end
end TL
end Go
namespace Go
namespace TL
open Go.RowKit
section
variable {P : Program} {ops : Array Oper} {rest : List Oper} {o : Oper} {a : Act} {w w0 : World} {Q : Exit → Act → World → Prop} {F : List Nat} {L : List Chunk}
/-- []byte(s): a slice of the call's own. -/
theorem w_bytes (M : Mem F w0 w L) (src dst e : TypeId) (x : Operand) (ho : o.op = .convert src dst x) (hw : Region.wanted o (yielded ops a.tmps) = true) {l : List UInt8} (hx : a.eval x = .string (mkS l))
    (hs : P.underlying src = some .string) (hd : P.underlying dst = some (.slice e)) (he : P.underlying e = some (.int .u8)) (hl : l.length ≤ 1000000000000)
    (h : ∀ (g cap : Nat) (w' : World), l.length ≤ cap → Mem F w0 w' (.sl 1 (.slice (some ⟨g, 0, none⟩) l.length cap) l.length (bs l) :: L) → wpList P ops Q rest (a.put o.dst (.slice (some ⟨g, 0, none⟩) l.length cap)) w') : wpList P ops Q (o :: rest) a w :=
  wpW hw fun _ hK => by
    have hr := Lib.run_convert_string_bytes (P := P) w src dst e (mkS l) hs hd he
    rw [mkS_size] at hr
    obtain ⟨cap, ec⟩ : ∃ cap, cap = grownCap w l.length 0 e := ⟨_, rfl⟩
    have hc1 : l.length ≤ cap := by rw [ec]; exact grownCap_ge _ _ _ _
    have hc2 : cap ≤ maxLen := by rw [ec]; exact grownCap_le_maxLen _ _ _ _ (by simp only [maxLen]; omega)
    have hsz : (Lib.bytesCells w e (mkS l)).size = cap := by
      simp only [Lib.bytesCells, Array.size_append, Array.size_map, Array.size_replicate, mkS_size, ← ec]
      show (mkS l).data.size + _ = _
      have : (mkS l).data.size = l.length := mkS_size l
      omega
    have hnew := Lib.bytesWorld_at_new w e (mkS l)
    have hk : Kept [] w (Lib.bytesWorld w e (mkS l)) := ⟨rfl, rfl, rfl, by rw [Lib.bytesWorld_size]; omega, fun k hk _ => Lib.bytesWorld_at_old w e (mkS l) k hk⟩
    have hok : (Chunk.sl 1 (.slice (some ⟨w.heap.size, 0, none⟩) l.length cap) l.length (bs l)).ok (Lib.bytesWorld w e (mkS l)) := by
      refine ⟨by simp [bs_length], .inr ⟨w.heap.size, 0, cap, rfl, Nat.zero_le _, by rw [Lib.bytesWorld_size]; omega, hc1, hc2, ?_, ?_⟩⟩
      · intro j v hv
        have hj : j < l.length := by have := (List.getElem?_eq_some_iff.1 hv).1; rwa [bs_length] at this
        rw [Nat.zero_add, Lib.bytesWorld_cell w e (mkS l) j (by rw [mkS_size]; exact hj), mkS_data, ← hv, getD_some hj]; rfl
      · intro j hj
        rw [Nat.mul_one] at hj
        rw [Nat.zero_add]
        constructor
        · simp only [World.cell?, hnew]
          rw [if_neg (by decide), Array.getElem?_eq_getElem (by omega)]; rfl
        · simp only [World.frozen?, hnew]
          rw [hsz]; simp; omega
    rw [← ec] at hr
    unfold Oper.wp execOp
    simp only [ho, hx, Sem.run_bind, hr, Result.andThen_ok]
    exact hK _ _ (h _ cap _ hc1 (M.add _ hk hok (by simp [Chunk.fp, Value.ownBlock])))
end
end TL
end Go
namespace Go
namespace TL
open Go.RowKit
theorem w_buildSliceB {P : Program} {ops : Array Oper} {rest : List Oper} {o : Oper} {a : Act} {w w0 : World} {Q : Exit → Act → World → Prop} {F : List Nat} {L : List Chunk} (M : Mem F w0 w L) {t e : TypeId} (T : SliceT P t e 1 1) (x : Operand) (ho : o.op = .buildSlice t 1 #[(0, x)]) (hw : Region.wanted o (yielded ops a.tmps) = true) {b : UInt8} (hx : a.eval x = .int .u8 (I8 b))
    (h : ∀ (g : Nat) (w' : World), Mem F w0 w' (.row g (bs [b]) :: L) → wpList P ops Q rest (a.put o.dst (.slice (some ⟨g, 0, none⟩) 1 1)) w') : wpList P ops Q (o :: rest) a w :=
  w_buildSlice1 M T (by decide) x ho hw hx (bs [b]) rfl rfl h
end TL
end Go

/- A region that draws its order and holds calls that leave alone what was there: what is loaded there is loaded at any time. Walked in one order. Conditions: the check 'detI', by computation; what is loaded is the same in every world that meets I; behind each operation that writes I holds. -/
namespace Go
namespace TL
/-- The regular end alone. -/
def Seg (F : Act → World → Prop) : Exit → Act → World → Prop
  | .normal, a, w => F a w
  | _, _, _ => False
theorem Seg.intro {F : Act → World → Prop} {a : Act} {w : World} (h : F a w) : Seg F .normal a w := h
theorem Seg.letsOut {F : Act → World → Prop} (h : LetsOut (Seg F)) : False := by
  obtain ⟨a, w, h⟩ := h; exact h
theorem Oper.wp_seg {P : Program} {o : Oper} {a : Act} {w : World} {K K' : Act → World → Prop} {F F' : Act → World → Prop} (h : ∀ a w, K a w → K' a w) (hh : o.wp P a w K (Seg F)) : o.wp P a w K' (Seg F') := by
  unfold Oper.wp at *
  generalize (execOp a.eval o).run P w = r at *
  cases r with
  | ok n w1 =>
    cases n <;> simp only [Oper.upon] at hh ⊢
    case value v => exact h _ _ hh
    case skip => exact h _ _ hh
    case defer d => exact h _ _ hh
    case enter f args =>
      refine Calls.mono hh fun e w2 h2 => ?_
      cases e with
      | returned v => exact h _ _ h2
      | panicked c => exact h2.elim
      | outgrown => exact (Seg.letsOut h2).elim
    case row row args => exact fun b k => let ⟨v, w2, h1, h2⟩ := hh b k; ⟨v, w2, h _ _ h1, h2⟩
  | halt x w1 => cases x <;> simp only [Oper.upon] at hh <;> exact hh.elim
section
variable {P : Program} {ops : Array Oper} {Q : Exit → Act → World → Prop} {md : Region.Mode} {I : World → Prop}
def wpAnyI (P : Program) (md : Region.Mode) (ops : Array Oper) (Q : Exit → Act → World → Prop) (I : World → Prop) : Nat → Array Bool → Act → World → Prop
  | 0, listed, a, w => Region.ready md ops listed = [] ∧ Q .normal a w
  | fuel + 1, listed, a, w =>
    (Region.ready md ops listed = [] → Q .normal a w) ∧
    ∀ j ∈ Region.ready md ops listed, wpOp P ops Q j (fun a' w' => I w' ∧ wpAnyI P md ops Q I fuel (listed.setIfInBounds j true) a' w') a w
theorem wpAny_of_I : ∀ (fuel : Nat) (listed : Array Bool) (a : Act) (w : World), wpAnyI P md ops Q I fuel listed a w → wpAny P md ops Q fuel listed a w
  | 0, _, _, _, h => h
  | fuel + 1, _, _, _, h => ⟨h.1, fun j hj => wpOp_mono (fun a' w' h' => wpAny_of_I fuel _ a' w' h'.2) (h.2 j hj)⟩
/-- What yields the same in every world that meets I may be taken first. -/
theorem I_first {i : Nat} {oi : Oper} {v : Value} (hi : ops[i]? = some oi) (hsel : ∀ (j : Nat) (o : Oper) cs b, ops[j]? = some o → o.op ≠ .select cs b)
    (hQ : ∀ c a w, Q (.panic c) (a.put oi.dst v) w → Q (.panic c) a w) :
    ∀ (fuel : Nat) (listed : Array Bool) (a : Act) (w : World),
      (∀ j oj, ops[j]? = some oj → j ≠ i → listed.getD j true = false → (∀ e ∈ oj.after, Region.binds md e = true → e.on ≠ i) → oi.apart ops oj = true) →
      i ∈ Region.ready md ops listed → YieldsIf P ops I oi v a → I w →
      wpAnyI P md ops Q I fuel (listed.setIfInBounds i true) (a.put oi.dst v) w → wpAnyI P md ops Q I (fuel + 1) listed a w := by
  intro fuel
  induction fuel with
  | zero =>
    intro listed a w _ hr hy hw H
    refine ⟨fun h => (by rw [h] at hr; cases hr), fun j hj => ?_⟩
    by_cases hji : j = i
    · subst hji; exact hy.wpOp hi hw ⟨hw, H⟩
    · have := ready_mono hj hji
      rw [H.1] at this
      cases this
  | succ fuel ih =>
    intro listed a w hfree hr hy hw H
    refine ⟨fun h => (by rw [h] at hr; cases hr), fun j hj => ?_⟩
    by_cases hji : j = i
    · subst hji; exact hy.wpOp hi hw ⟨hw, H⟩
    · have h1 := H.2 j (ready_mono hj hji)
      obtain ⟨hjun, oj, hoj, hall⟩ := mem_ready.1 hj
      have hnot := not_waits hr hoj hall
      have h2 := wpOp_putIf hoj (hfree j oj hoj hji hjun hnot) (fun cs b => hsel i oi cs b hi) (fun cs b => hsel j oj cs b hoj) hQ hy h1
      have hfree' : ∀ k ok, ops[k]? = some ok → k ≠ i → (listed.setIfInBounds j true).getD k true = false →
          (∀ e ∈ ok.after, Region.binds md e = true → e.on ≠ i) → oi.apart ops ok = true := fun k ok hk hki hun hno => by
        refine hfree k ok hk hki ?_ hno
        by_cases hjk : j = k
        · subst hjk; exact hjun
        · rw [getD_set_ne true hjk] at hun; exact hun
      refine wpOp_mono (fun a' w' h3 => ⟨h3.2.1, ih (listed.setIfInBounds j true) a' w' hfree' (ready_mono hr (Ne.symm hji)) h3.1 h3.2.1 ?_⟩) h2
      rw [Array.setIfInBounds_comm _ _ hji]; exact h3.2.2
end
/-! ### The walk -/
/-- The operations up to the first that writes, and what is to hold there. -/
def planW (P : Program) (ops : Array Oper) (fin : Act → World → Prop) (I : World → Prop) : Plan → List Oper × (Act → World → Prop)
  | [] => ([], fin)
  | (i, false) :: r => (opAt ops i :: (planW P ops fin I r).1, (planW P ops fin I r).2)
  | (i, true) :: r => ([opAt ops i], fun a w => I w ∧ wpList P ops (Seg (planW P ops fin I r).2) (planW P ops fin I r).1 a w)
def lowOpnd (o : Oper) : Operand := match o.op with | .load _ x => x | .convert _ _ x => x | _ => .const undef
/-- What is loaded at p is the same in every world that meets I. -/
def Stab (P : Program) (I : World → Prop) (o : Oper) (p : Value) : Prop :=
  match o.op with
  | .load t _ => ∃ v, ∀ w, I w → (Instr.loadAt t p).run P w = .ok v w
  | .convert src dst _ => ∃ v, ∀ w, I w → (convert src dst p).run P w = .ok v w
  | _ => False
def finI (ops : Array Oper) (need : Needs) (low : List (Nat × Value)) (Q : Exit → Act → World → Prop) : Act → World → Prop := fun a w =>
  needOk need a = true ∧ (∀ x ∈ low, a.eval (lowOpnd (opAt ops x.1)) = x.2) ∧ Q .normal a w
def staysLow (ops : Array Oper) (o : Oper) (r : Plan) : Bool := r.all fun x => match (opAt ops x.1).dst with | some d => !(tmpsIn o).contains d | none => true
def detI (P : Program) (ops : Array Oper) (need : Needs) (idx : List Nat) : Array Bool → Plan → Bool
  | listed, [] => (Region.ready .any ops listed).isEmpty
  | listed, (i, false) :: r =>
    (Region.ready .any ops listed).contains i && Region.free .any ops listed i &&
      ((stays ops need (opAt ops i) ((i, false) :: r) && pureOp P (needOf need (opAt ops i)) (opAt ops i)) || (idx.contains i && staysLow ops (opAt ops i) ((i, false) :: r))) &&
      detI P ops need idx (listed.setIfInBounds i true) r
  | listed, (i, true) :: r => Region.ready .any ops listed == [i] && detI P ops need idx (listed.setIfInBounds i true) r
section
variable {P : Program} {ops : Array Oper} {I : World → Prop} {fin : Act → World → Prop}
theorem stepS {F : Act → World → Prop} {o : Oper} {l : List Oper} {a : Act} {w : World} (h : wpList P ops (Seg F) (o :: l) a w) :
    ∃ a' w', wpList P ops (Seg F) l a' w' ∧ ∀ t, o.dst ≠ some t → a'.tmps.getD t undef = a.tmps.getD t undef := by
  unfold wpList at h
  split at h
  · rcases h with h | h
    · unfold Oper.wp at h
      generalize (execOp a.eval o).run P w = r at h
      cases r with
      | ok n w1 =>
        cases n <;> simp only [Oper.upon] at h
        case value v => exact ⟨_, _, h, fun t ht => put_ne ht⟩
        case skip => exact ⟨_, _, h, fun t ht => put_ne ht⟩
        case defer d => exact ⟨_, _, h, fun t ht => put_ne (a := { a with defers := d :: a.defers }) ht⟩
        case enter f args =>
          obtain ⟨e, w2, fr, hR, _⟩ := h []
          cases e with
          | returned v => exact ⟨_, _, hR, fun t ht => put_ne ht⟩
          | panicked c => exact hR.elim
          | outgrown => exact (Seg.letsOut hR).elim
        case row row args =>
          obtain ⟨v, w2, hR, _⟩ := h default []
          exact ⟨_, _, hR, fun t ht => put_ne ht⟩
      | halt x w1 => cases x <;> simp only [Oper.upon] at h <;> exact h.elim
    · exact (Seg.letsOut h.2).elim
  · exact ⟨_, _, h, fun t ht => put_ne ht⟩
theorem endsP : ∀ (plan : Plan) (a : Act) (w : World), wpList P ops (Seg (planW P ops fin I plan).2) (planW P ops fin I plan).1 a w →
    ∃ af wf, fin af wf ∧ ∀ t, (∀ x ∈ plan, (opAt ops x.1).dst ≠ some t) → af.tmps.getD t undef = a.tmps.getD t undef
  | [], a, w, h => ⟨a, w, h, fun _ _ => rfl⟩
  | (i, false) :: r, a, w, h => by
    obtain ⟨a', w', h1, h2⟩ := stepS h
    obtain ⟨af, wf, h3, h4⟩ := endsP r a' w' h1
    exact ⟨af, wf, h3, fun t ht => (h4 t fun x hx => ht x (List.mem_cons_of_mem _ hx)).trans (h2 t (ht (i, false) List.mem_cons_self))⟩
  | (i, true) :: r, a, w, h => by
    obtain ⟨a', w', h1, h2⟩ := stepS h
    obtain ⟨af, wf, h3, h4⟩ := endsP r a' w' h1.2
    exact ⟨af, wf, h3, fun t ht => (h4 t fun x hx => ht x (List.mem_cons_of_mem _ hx)).trans (h2 t (ht (i, true) List.mem_cons_self))⟩
theorem eval_same {a a' : Act} {x : Operand} (h : ∀ t, x = .tmp t → a'.tmps.getD t undef = a.tmps.getD t undef) : a'.eval x = a.eval x := by
  cases x <;> simp only [Act.eval]
  exact h _ rfl
theorem lowOpnd_in (o : Oper) {t : Tmp} (h : lowOpnd o = .tmp t) : t ∈ tmpsIn o := by
  obtain ⟨dst, op, type, pos, after, guard⟩ := o
  cases op <;> simp only [lowOpnd, reduceCtorEq] at h
  all_goals (subst h; simp [tmpsIn, Op.operands])
theorem mainI {need : Needs} {low : List (Nat × Value)} {Q : Exit → Act → World → Prop} (hs : Region.noSelect ops = true) (hlow : ∀ x ∈ low, Stab P I (opAt ops x.1) x.2) :
    ∀ (plan : Plan) (listed : Array Bool) (a : Act) (w : World), detI P ops need (low.map (·.1)) listed plan = true → I w →
      wpList P ops (Seg (planW P ops (finI ops need low Q) I plan).2) (planW P ops (finI ops need low Q) I plan).1 a w →
      wpAnyI P .any ops (Seg (finI ops need low Q)) I plan.length listed a w
  | [], listed, a, w, hd, _, h => by
    have : Region.ready .any ops listed = [] := by simpa [detI] using hd
    exact ⟨this, h⟩
  | (i, false) :: r, listed, a, w, hd, hIw, h => by
    simp only [detI, Bool.and_eq_true] at hd
    obtain ⟨⟨⟨hr, hf⟩, hk⟩, hrest⟩ := hd
    have hr' : i ∈ Region.ready .any ops listed := by simpa using hr
    obtain ⟨_, oi, hoi, _⟩ := mem_ready.1 hr'
    have hat : opAt ops i = oi := by simp [opAt, hoi]
    have hends := endsP ((i, false) :: r) a w h
    have h' : wpList P ops (Seg (planW P ops (finI ops need low Q) I r).2) (oi :: (planW P ops (finI ops need low Q) I r).1) a w := by
      rw [← hat]; exact h
    have hQ : ∀ v c a w, Seg (finI ops need low Q) (.panic c) (a.put oi.dst v) w → Seg (finI ops need low Q) (.panic c) a w := fun _ _ _ _ h => h.elim
    have hsel := fun j o cs b ho => Region.noSelect_spec hs j o cs b ho
    -- what it comes to, in every world that meets I
    have key : ∀ (s : Sem Value), execOp a.eval oi = (do Pure.pure (Next.value (← s))) → (∀ v w1, s.run P w = .ok v w1 → w1 = w ∧ ∀ w', I w' → s.run P w' = .ok v w') →
        wpAnyI P .any ops (Seg (finI ops need low Q)) I (r.length + 1) listed a w := fun s hex hl => by
      cases hw : Region.wanted oi (yielded ops a.tmps) with
      | true =>
        unfold wpList at h'
        rw [if_pos hw] at h'
        rcases h' with h' | h'
        · unfold Oper.wp at h'
          rw [hex, Sem.run_bind] at h'
          cases hrun : s.run P w with
          | ok v w1 =>
            obtain ⟨rfl, hall⟩ := hl _ _ hrun
            rw [hrun] at h'
            have hy : YieldsIf P ops I oi v a := .inl ⟨hw, fun w' hw' => by rw [hex, Sem.run_bind, hall w' hw']; rfl⟩
            exact I_first hoi hsel (hQ v) r.length listed a w1 (Region.free_spec hoi hf) hr' hy hIw (mainI hs hlow r _ _ w1 hrest hIw h')
          | halt x w1 =>
            rw [hrun] at h'
            cases x <;> exact h'.elim
        · exact (Seg.letsOut h'.2).elim
      | false =>
        unfold wpList at h'
        rw [if_neg (by rw [hw]; decide)] at h'
        exact I_first hoi hsel (hQ undef) r.length listed a w (Region.free_spec hoi hf) hr' (.inr ⟨hw, rfl⟩) hIw (mainI hs hlow r _ _ w hrest hIw h')
    obtain ⟨af, wf, ⟨hneed, hlowf, _⟩, hsame⟩ := hends
    rcases (Bool.or_eq_true _ _).mp hk with hp | hp
    · obtain ⟨hst, hp⟩ := (Bool.and_eq_true _ _).mp hp
      have hne : needOk (needOf need (opAt ops i)) a = true := by
        unfold needOk at hneed ⊢
        rw [List.all_eq_true] at hneed ⊢
        intro p hpm
        have hp0 := hpm
        simp only [needOf, List.mem_filter] at hpm
        have h3 := hneed p hpm.1
        rw [hsame p.1 (fun x hx hd => by
          have h5 := List.all_eq_true.1 hst x hx
          simp only [hd] at h5
          have h6 := List.all_eq_true.1 h5 p hp0
          simp at h6)] at h3
        exact h3
      rw [hat] at hp hne
      obtain ⟨s, hex, hloc⟩ := pureOp_local hp hne
      exact key s hex fun v w1 hrun => ⟨(hloc _ _ _ hrun).1, fun w' _ => (hloc _ _ _ hrun).2 w'⟩
    · obtain ⟨hix, hst⟩ := (Bool.and_eq_true _ _).mp hp
      simp only [List.contains_iff_mem, List.mem_map] at hix
      obtain ⟨⟨i', p⟩, hxm, hxi⟩ := hix
      have hxi' : i' = i := hxi
      subst hxi'
      have hev : a.eval (lowOpnd oi) = p := by
        have e := hlowf _ hxm
        simp only [hat] at e
        rw [← e]
        refine (eval_same fun t ht => ?_).symm
        refine hsame t fun x hx hd => ?_
        have h5 := List.all_eq_true.1 hst x hx
        simp only [hd, hat] at h5
        have h6 := lowOpnd_in oi ht
        simp [h6] at h5
      have hstab := hlow _ hxm
      simp only [hat] at hstab
      unfold Stab at hstab
      cases hop : oi.op <;> simp only [hop] at hstab
      case load t x =>
        have hev' : a.eval x = p := by simpa only [lowOpnd, hop] using hev
        obtain ⟨v, hv⟩ := hstab
        refine key (Instr.loadAt t p) (by simp only [execOp, hop, hev']) fun u w1 hrun => ?_
        rw [hv w hIw] at hrun
        cases hrun
        exact ⟨rfl, hv⟩
      case convert src d x =>
        have hev' : a.eval x = p := by simpa only [lowOpnd, hop] using hev
        obtain ⟨v, hv⟩ := hstab
        refine key (Go.convert src d p) (by simp only [execOp, hop, hev']) fun u w1 hrun => ?_
        rw [hv w hIw] at hrun
        cases hrun
        exact ⟨rfl, hv⟩
  | (i, true) :: r, listed, a, w, hd, hIw, h => by
    simp only [detI, Bool.and_eq_true] at hd
    have hr : Region.ready .any ops listed = [i] := by simpa using hd.1
    have hr' : i ∈ Region.ready .any ops listed := by rw [hr]; simp
    obtain ⟨_, oi, hoi, _⟩ := mem_ready.1 hr'
    have hat : opAt ops i = oi := by simp [opAt, hoi]
    refine ⟨fun h0 => (by rw [hr] at h0; cases h0), fun j hj => ?_⟩
    rw [hr] at hj
    obtain rfl : j = i := by simpa using hj
    have h1 : wpList P ops (Seg (planW P ops (finI ops need low Q) I ((j, true) :: r)).2) [oi] a w := by rw [← hat]; exact h
    have cont : ∀ a' w', I w' ∧ wpList P ops (Seg (planW P ops (finI ops need low Q) I r).2) (planW P ops (finI ops need low Q) I r).1 a' w' →
        I w' ∧ wpAnyI P .any ops (Seg (finI ops need low Q)) I r.length (listed.setIfInBounds j true) a' w' := fun a' w' ⟨h2, h3⟩ => ⟨h2, mainI hs hlow r _ a' w' hd.2 h2 h3⟩
    unfold wpOp
    rw [hoi]
    unfold wpList at h1
    dsimp only
    split
    · rename_i hw
      rw [if_pos hw] at h1
      rcases h1 with h1 | h1
      · exact .inl (Oper.wp_seg cont h1)
      · exact (Seg.letsOut h1.2).elim
    · rename_i hw
      rw [if_neg hw] at h1
      exact cont _ _ h1
/-- THE REGION. 'low': the loads (and readings of bytes) that may come at any time, each with the place that it reads. -/
theorem region_low {Q : Exit → Act → World → Prop} {id : Nat} {l : List Oper} {a : Act} {w : World} (plan : Plan) (need : Needs) (low : List (Nat × Value)) (I : World → Prop) (hm : P.follows .mixedOrders = true)
    (hs : Region.noSelect l.toArray = true) (hn : plan.length = l.length) (hd : detI P l.toArray need (low.map (·.1)) (Array.replicate l.length false) plan = true)
    (hlow : ∀ x ∈ low, Stab P I (opAt l.toArray x.1) x.2) (hI : I w.drew)
    (h : wpList P l.toArray (Seg (planW P l.toArray (finI l.toArray need low Q) I plan).2) (planW P l.toArray (finI l.toArray need low Q) I plan).1 a w.drew) : (Code.region id l.toArray true).wp P Q a w := by
  refine Code.wp_mono (Q := Seg (finI l.toArray need low Q)) (fun e a w h => ?_) ?_
  · cases e <;> first | exact h.2.2 | exact h.elim
  · refine wp_region_any hm (wpAny_of_I (I := I) _ _ _ _ (?_ : wpAnyI P .any l.toArray (Seg (finI l.toArray need low Q)) I l.toArray.size (Array.replicate l.toArray.size false) a w.drew))
    have := mainI (Q := Q) hs hlow plan (Array.replicate l.length false) a w.drew hd hI h
    rw [hn] at this
    exact this
end
/-! ### What is told to it -/
theorem stab_load {P : Program} {I : World → Prop} {o : Oper} {t : TypeId} {x : Operand} (ho : o.op = .load t x) (b off : Nat) (cs : List Value) (d : TypeDesc) (hI : ∀ w', I w' → w'.rangeAt b off cs)
    (hu : P.underlying t = some d) (hd : d.isRow = true) (hi : (P.info? t).map (·.size) = some cs.length) : Stab P I o (.pointer (some ⟨b, off, none⟩)) := by
  unfold Stab; rw [ho]
  exact ⟨_, fun w' hw => run_loadAt_mid w' b off t cs d (hI w' hw) hu hd hi⟩
theorem stab_conv {P : Program} {I : World → Prop} {o : Oper} {src dst e : TypeId} {x : Operand} (ho : o.op = .convert src dst x) (v : Value) (l : List UInt8) (hI : ∀ w', I w' → SeesB w' v l)
    (hs : P.underlying src = some (.slice e)) (he : P.underlying e = some (.int .u8)) (hd : P.underlying dst = some .string) : Stab P I o v := by
  unfold Stab; rw [ho]
  exact ⟨_, fun w' hw => SeesB.run_string (hI w' hw) src dst e hs he hd w' (grownBy_refl _ _)⟩
theorem lows_cons {P : Program} {I : World → Prop} {ops : Array Oper} {x : Nat × Value} {low : List (Nat × Value)} (h : Stab P I (opAt ops x.1) x.2) (r : ∀ x ∈ low, Stab P I (opAt ops x.1) x.2) : ∀ y ∈ x :: low, Stab P I (opAt ops y.1) y.2 :=
  List.forall_mem_cons.2 ⟨h, r⟩
theorem lows_nil {P : Program} {I : World → Prop} {ops : Array Oper} : ∀ y ∈ ([] : List (Nat × Value)), Stab P I (opAt ops y.1) y.2 := fun _ h => by cases h
theorem ats_cons {ops : Array Oper} {a : Act} {x : Nat × Value} {low : List (Nat × Value)} (h : a.eval (lowOpnd (opAt ops x.1)) = x.2) (r : ∀ x ∈ low, a.eval (lowOpnd (opAt ops x.1)) = x.2) : ∀ y ∈ x :: low, a.eval (lowOpnd (opAt ops y.1)) = y.2 :=
  List.forall_mem_cons.2 ⟨h, r⟩
theorem ats_nil {ops : Array Oper} {a : Act} : ∀ y ∈ ([] : List (Nat × Value)), a.eval (lowOpnd (opAt ops y.1)) = y.2 := fun _ h => by cases h
theorem needs_nil {a : Act} : needOk [] a = true := rfl
theorem needs_cons {a : Act} {x : Tmp × Shape} {r : Needs} (h : x.2.ok (a.tmps.getD x.1 undef) = true) (k : needOk r a = true) : needOk (x :: r) a = true := by
  unfold needOk at *; rw [List.all_cons, h, k]; rfl
end TL
end Go

/- A region that draws its order, walked in one order, beside the walk's memory. No conditions but those each law names. -/
namespace Go
namespace TL
open Go.RowKit
/-! ### The walk of such a region: behind its last operation, c, nothing is asked, if it waits for all that was read -/
section
variable {P : Program} {ops : Array Oper} {Q : Exit → Act → World → Prop} {md : Region.Mode} {I : World → Prop} {c : Nat}
def wpAnyC (P : Program) (md : Region.Mode) (ops : Array Oper) (Q : Exit → Act → World → Prop) (I : World → Prop) (c : Nat) : Nat → Array Bool → Act → World → Prop
  | 0, listed, a, w => Region.ready md ops listed = [] ∧ Q .normal a w
  | fuel + 1, listed, a, w =>
    (Region.ready md ops listed = [] → Q .normal a w) ∧
    ∀ j ∈ Region.ready md ops listed, wpOp P ops Q j (fun a' w' => (j ≠ c → I w') ∧ wpAnyC P md ops Q I c fuel (listed.setIfInBounds j true) a' w') a w
theorem wpAny_of_C : ∀ (fuel : Nat) (listed : Array Bool) (a : Act) (w : World), wpAnyC P md ops Q I c fuel listed a w → wpAny P md ops Q fuel listed a w
  | 0, _, _, _, h => h
  | fuel + 1, _, _, _, h => ⟨h.1, fun j hj => wpOp_mono (fun a' w' h' => wpAny_of_C fuel _ a' w' h'.2) (h.2 j hj)⟩
/-- What yields the same in every world that meets I may be taken first. -/
theorem C_first {i : Nat} {oi : Oper} {v : Value} (hi : ops[i]? = some oi) (hsel : ∀ (j : Nat) (o : Oper) cs b, ops[j]? = some o → o.op ≠ .select cs b)
    (hQ : ∀ c a w, Q (.panic c) (a.put oi.dst v) w → Q (.panic c) a w) (hwait : ∀ oc, ops[c]? = some oc → ∃ e ∈ oc.after, Region.binds md e = true ∧ e.on = i) :
    ∀ (fuel : Nat) (listed : Array Bool) (a : Act) (w : World),
      (∀ j oj, ops[j]? = some oj → j ≠ i → listed.getD j true = false → (∀ e ∈ oj.after, Region.binds md e = true → e.on ≠ i) → oi.apart ops oj = true) →
      i ∈ Region.ready md ops listed → YieldsIf P ops I oi v a → I w →
      wpAnyC P md ops Q I c fuel (listed.setIfInBounds i true) (a.put oi.dst v) w → wpAnyC P md ops Q I c (fuel + 1) listed a w := by
  intro fuel
  induction fuel with
  | zero =>
    intro listed a w _ hr hy hw H
    refine ⟨fun h => (by rw [h] at hr; cases hr), fun j hj => ?_⟩
    by_cases hji : j = i
    · subst hji; exact hy.wpOp hi hw ⟨fun _ => hw, H⟩
    · have := ready_mono hj hji
      rw [H.1] at this
      cases this
  | succ fuel ih =>
    intro listed a w hfree hr hy hw H
    refine ⟨fun h => (by rw [h] at hr; cases hr), fun j hj => ?_⟩
    by_cases hji : j = i
    · subst hji; exact hy.wpOp hi hw ⟨fun _ => hw, H⟩
    · have h1 := H.2 j (ready_mono hj hji)
      obtain ⟨hjun, oj, hoj, hall⟩ := mem_ready.1 hj
      have hnot := not_waits hr hoj hall
      have hjc : j ≠ c := fun e => by
        subst e
        obtain ⟨x, hx, hb, hxi⟩ := hwait oj hoj
        exact hnot x hx hb hxi
      have h2 := wpOp_putIf hoj (hfree j oj hoj hji hjun hnot) (fun cs b => hsel i oi cs b hi) (fun cs b => hsel j oj cs b hoj) hQ hy h1
      have hfree' : ∀ k ok, ops[k]? = some ok → k ≠ i → (listed.setIfInBounds j true).getD k true = false →
          (∀ e ∈ ok.after, Region.binds md e = true → e.on ≠ i) → oi.apart ops ok = true := fun k ok hk hki hun hno => by
        refine hfree k ok hk hki ?_ hno
        by_cases hjk : j = k
        · subst hjk; exact hjun
        · rw [getD_set_ne true hjk] at hun; exact hun
      refine wpOp_mono (fun a' w' h3 => ⟨fun _ => h3.2.1 hjc, ih (listed.setIfInBounds j true) a' w' hfree' (ready_mono hr (Ne.symm hji)) h3.1 (h3.2.1 hjc) ?_⟩) h2
      rw [Array.setIfInBounds_comm _ _ hji]; exact h3.2.2
end
/-! ### The walk -/
/-- The operations up to the first that writes, and what is to hold there. -/
def planC (P : Program) (ops : Array Oper) (fin : Act → World → Prop) (I : World → Prop) (c : Nat) : Plan → List Oper × (Act → World → Prop)
  | [] => ([], fin)
  | (i, false) :: r => (opAt ops i :: (planC P ops fin I c r).1, (planC P ops fin I c r).2)
  | (i, true) :: r => ([opAt ops i], fun a w => (i ≠ c → I w) ∧ wpList P ops (Seg (planC P ops fin I c r).2) (planC P ops fin I c r).1 a w)
def waitsC (ops : Array Oper) (c i : Nat) : Bool := match ops[c]? with | none => true | some oc => oc.after.any fun e => Region.binds .any e && e.on == i
theorem waitsC_spec {ops : Array Oper} {c i : Nat} (h : waitsC ops c i = true) : ∀ oc, ops[c]? = some oc → ∃ e ∈ oc.after, Region.binds .any e = true ∧ e.on = i := fun oc hoc => by
  unfold waitsC at h; rw [hoc] at h
  simp only [Array.any_eq_true'] at h
  obtain ⟨e, he, h⟩ := h
  simp only [Bool.and_eq_true, beq_iff_eq] at h
  exact ⟨e, he, h.1, h.2⟩
def detC (P : Program) (ops : Array Oper) (need : Needs) (idx : List Nat) (c : Nat) : Array Bool → Plan → Bool
  | listed, [] => (Region.ready .any ops listed).isEmpty
  | listed, (i, false) :: r =>
    (Region.ready .any ops listed).contains i && Region.free .any ops listed i &&
      ((stays ops need (opAt ops i) ((i, false) :: r) && pureOp P (needOf need (opAt ops i)) (opAt ops i)) || (idx.contains i && staysLow ops (opAt ops i) ((i, false) :: r))) &&
      (waitsC ops c i && detC P ops need idx c (listed.setIfInBounds i true) r)
  | listed, (i, true) :: r => Region.ready .any ops listed == [i] && ((i != c || r.isEmpty) && detC P ops need idx c (listed.setIfInBounds i true) r)
section
variable {P : Program} {ops : Array Oper} {I : World → Prop} {fin : Act → World → Prop} {c : Nat}
theorem endsC : ∀ (plan : Plan) (a : Act) (w : World), wpList P ops (Seg (planC P ops fin I c plan).2) (planC P ops fin I c plan).1 a w →
    ∃ af wf, fin af wf ∧ ∀ t, (∀ x ∈ plan, (opAt ops x.1).dst ≠ some t) → af.tmps.getD t undef = a.tmps.getD t undef
  | [], a, w, h => ⟨a, w, h, fun _ _ => rfl⟩
  | (i, false) :: r, a, w, h => by
    obtain ⟨a', w', h1, h2⟩ := stepS h
    obtain ⟨af, wf, h3, h4⟩ := endsC r a' w' h1
    exact ⟨af, wf, h3, fun t ht => (h4 t fun x hx => ht x (List.mem_cons_of_mem _ hx)).trans (h2 t (ht (i, false) List.mem_cons_self))⟩
  | (i, true) :: r, a, w, h => by
    obtain ⟨a', w', h1, h2⟩ := stepS h
    obtain ⟨af, wf, h3, h4⟩ := endsC r a' w' h1.2
    exact ⟨af, wf, h3, fun t ht => (h4 t fun x hx => ht x (List.mem_cons_of_mem _ hx)).trans (h2 t (ht (i, true) List.mem_cons_self))⟩
theorem mainC {need : Needs} {low : List (Nat × Value)} {Q : Exit → Act → World → Prop} (hs : Region.noSelect ops = true) (hlow : ∀ x ∈ low, Stab P I (opAt ops x.1) x.2) :
    ∀ (plan : Plan) (listed : Array Bool) (a : Act) (w : World), detC P ops need (low.map (·.1)) c listed plan = true → I w →
      wpList P ops (Seg (planC P ops (finI ops need low Q) I c plan).2) (planC P ops (finI ops need low Q) I c plan).1 a w →
      wpAnyC P .any ops (Seg (finI ops need low Q)) I c plan.length listed a w
  | [], listed, a, w, hd, _, h => by
    have : Region.ready .any ops listed = [] := by simpa [detC] using hd
    exact ⟨this, h⟩
  | (i, false) :: r, listed, a, w, hd, hIw, h => by
    simp only [detC, Bool.and_eq_true] at hd
    obtain ⟨⟨⟨hr, hf⟩, hk⟩, hwt, hrest⟩ := hd
    have hwait := waitsC_spec hwt
    have hr' : i ∈ Region.ready .any ops listed := by simpa using hr
    obtain ⟨_, oi, hoi, _⟩ := mem_ready.1 hr'
    have hat : opAt ops i = oi := by simp [opAt, hoi]
    have hends := endsC ((i, false) :: r) a w h
    have h' : wpList P ops (Seg (planC P ops (finI ops need low Q) I c r).2) (oi :: (planC P ops (finI ops need low Q) I c r).1) a w := by
      rw [← hat]; exact h
    have hQ : ∀ v c a w, Seg (finI ops need low Q) (.panic c) (a.put oi.dst v) w → Seg (finI ops need low Q) (.panic c) a w := fun _ _ _ _ h => h.elim
    have hsel := fun j o cs b ho => Region.noSelect_spec hs j o cs b ho
    -- what it comes to, in every world that meets I
    have key : ∀ (s : Sem Value), execOp a.eval oi = (do Pure.pure (Next.value (← s))) → (∀ v w1, s.run P w = .ok v w1 → w1 = w ∧ ∀ w', I w' → s.run P w' = .ok v w') →
        wpAnyC P .any ops (Seg (finI ops need low Q)) I c (r.length + 1) listed a w := fun s hex hl => by
      cases hw : Region.wanted oi (yielded ops a.tmps) with
      | true =>
        unfold wpList at h'
        rw [if_pos hw] at h'
        rcases h' with h' | h'
        · unfold Oper.wp at h'
          rw [hex, Sem.run_bind] at h'
          cases hrun : s.run P w with
          | ok v w1 =>
            obtain ⟨rfl, hall⟩ := hl _ _ hrun
            rw [hrun] at h'
            have hy : YieldsIf P ops I oi v a := .inl ⟨hw, fun w' hw' => by rw [hex, Sem.run_bind, hall w' hw']; rfl⟩
            exact C_first hoi hsel (hQ v) hwait r.length listed a w1 (Region.free_spec hoi hf) hr' hy hIw (mainC hs hlow r _ _ w1 hrest hIw h')
          | halt x w1 =>
            rw [hrun] at h'
            cases x <;> exact h'.elim
        · exact (Seg.letsOut h'.2).elim
      | false =>
        unfold wpList at h'
        rw [if_neg (by rw [hw]; decide)] at h'
        exact C_first hoi hsel (hQ undef) hwait r.length listed a w (Region.free_spec hoi hf) hr' (.inr ⟨hw, rfl⟩) hIw (mainC hs hlow r _ _ w hrest hIw h')
    obtain ⟨af, wf, ⟨hneed, hlowf, _⟩, hsame⟩ := hends
    rcases (Bool.or_eq_true _ _).mp hk with hp | hp
    · obtain ⟨hst, hp⟩ := (Bool.and_eq_true _ _).mp hp
      have hne : needOk (needOf need (opAt ops i)) a = true := by
        unfold needOk at hneed ⊢
        rw [List.all_eq_true] at hneed ⊢
        intro p hpm
        have hp0 := hpm
        simp only [needOf, List.mem_filter] at hpm
        have h3 := hneed p hpm.1
        rw [hsame p.1 (fun x hx hd => by
          have h5 := List.all_eq_true.1 hst x hx
          simp only [hd] at h5
          have h6 := List.all_eq_true.1 h5 p hp0
          simp at h6)] at h3
        exact h3
      rw [hat] at hp hne
      obtain ⟨s, hex, hloc⟩ := pureOp_local hp hne
      exact key s hex fun v w1 hrun => ⟨(hloc _ _ _ hrun).1, fun w' _ => (hloc _ _ _ hrun).2 w'⟩
    · obtain ⟨hix, hst⟩ := (Bool.and_eq_true _ _).mp hp
      simp only [List.contains_iff_mem, List.mem_map] at hix
      obtain ⟨⟨i', p⟩, hxm, hxi⟩ := hix
      have hxi' : i' = i := hxi
      subst hxi'
      have hev : a.eval (lowOpnd oi) = p := by
        have e := hlowf _ hxm
        simp only [hat] at e
        rw [← e]
        refine (eval_same fun t ht => ?_).symm
        refine hsame t fun x hx hd => ?_
        have h5 := List.all_eq_true.1 hst x hx
        simp only [hd, hat] at h5
        have h6 := lowOpnd_in oi ht
        simp [h6] at h5
      have hstab := hlow _ hxm
      simp only [hat] at hstab
      unfold Stab at hstab
      cases hop : oi.op <;> simp only [hop] at hstab
      case load t x =>
        have hev' : a.eval x = p := by simpa only [lowOpnd, hop] using hev
        obtain ⟨v, hv⟩ := hstab
        refine key (Instr.loadAt t p) (by simp only [execOp, hop, hev']) fun u w1 hrun => ?_
        rw [hv w hIw] at hrun
        cases hrun
        exact ⟨rfl, hv⟩
      case convert src d x =>
        have hev' : a.eval x = p := by simpa only [lowOpnd, hop] using hev
        obtain ⟨v, hv⟩ := hstab
        refine key (Go.convert src d p) (by simp only [execOp, hop, hev']) fun u w1 hrun => ?_
        rw [hv w hIw] at hrun
        cases hrun
        exact ⟨rfl, hv⟩
  | (i, true) :: r, listed, a, w, hd, hIw, h => by
    simp only [detC, Bool.and_eq_true] at hd
    have hr : Region.ready .any ops listed = [i] := by simpa using hd.1
    have hr' : i ∈ Region.ready .any ops listed := by rw [hr]; simp
    obtain ⟨_, oi, hoi, _⟩ := mem_ready.1 hr'
    have hat : opAt ops i = oi := by simp [opAt, hoi]
    refine ⟨fun h0 => (by rw [hr] at h0; cases h0), fun j hj => ?_⟩
    rw [hr] at hj
    obtain rfl : j = i := by simpa using hj
    have h1 : wpList P ops (Seg (planC P ops (finI ops need low Q) I c ((j, true) :: r)).2) [oi] a w := by rw [← hat]; exact h
    have cont : ∀ a' w', (j ≠ c → I w') ∧ wpList P ops (Seg (planC P ops (finI ops need low Q) I c r).2) (planC P ops (finI ops need low Q) I c r).1 a' w' →
        (j ≠ c → I w') ∧ wpAnyC P .any ops (Seg (finI ops need low Q)) I c r.length (listed.setIfInBounds j true) a' w' := fun a' w' ⟨h2, h3⟩ => by
      refine ⟨h2, ?_⟩
      by_cases e : j = c
      · have hre := hd.2.1
        cases r with
        | nil =>
          have : Region.ready .any ops (listed.setIfInBounds j true) = [] := by simpa [detC] using hd.2.2
          exact ⟨this, h3⟩
        | cons x r => simp [e] at hre
      · exact mainC hs hlow r _ a' w' hd.2.2 (h2 e) h3
    unfold wpOp
    rw [hoi]
    unfold wpList at h1
    dsimp only
    split
    · rename_i hw
      rw [if_pos hw] at h1
      rcases h1 with h1 | h1
      · exact .inl (Oper.wp_seg cont h1)
      · exact (Seg.letsOut h1.2).elim
    · rename_i hw
      rw [if_neg hw] at h1
      exact cont _ _ h1
/-- THE REGION. 'low': the loads (and readings of bytes) that may come at any time, each with the place that it reads. -/
theorem region_lowc {Q : Exit → Act → World → Prop} {id : Nat} {l : List Oper} {a : Act} {w : World} (plan : Plan) (need : Needs) (low : List (Nat × Value)) (I : World → Prop) (c : Nat) (hm : P.follows .mixedOrders = true)
    (hs : Region.noSelect l.toArray = true) (hn : plan.length = l.length) (hd : detC P l.toArray need (low.map (·.1)) c (Array.replicate l.length false) plan = true)
    (hlow : ∀ x ∈ low, Stab P I (opAt l.toArray x.1) x.2) (hI : I w.drew)
    (h : wpList P l.toArray (Seg (planC P l.toArray (finI l.toArray need low Q) I c plan).2) (planC P l.toArray (finI l.toArray need low Q) I c plan).1 a w.drew) : (Code.region id l.toArray true).wp P Q a w := by
  refine Code.wp_mono (Q := Seg (finI l.toArray need low Q)) (fun e a w h => ?_) ?_
  · cases e <;> first | exact h.2.2 | exact h.elim
  · refine wp_region_any hm (wpAny_of_C (I := I) (c := c) _ _ _ _ (?_ : wpAnyC P .any l.toArray (Seg (finI l.toArray need low Q)) I c l.toArray.size (Array.replicate l.toArray.size false) a w.drew))
    have := mainC (Q := Q) hs hlow plan (Array.replicate l.length false) a w.drew hd hI h
    rw [hn] at this
    exact this
end
/-- The pieces that a region's loads read stand as they were. -/
def IxOk {F : List Nat} {w0 w : World} {L : List Chunk} (_ : Mem F w0 w L) (is : List Nat) (w' : World) : Prop := Kept F w0 w' ∧ ∀ i ∈ is, ∀ c, L[i]? = some c → Chunk.ok w' c
section
variable {P : Program} {o : Oper} {w w0 w' : World} {F : List Nat} {L : List Chunk} {M : Mem F w0 w L} {is : List Nat}
theorem ixOk_self (M : Mem F w0 w L) (is : List Nat) : IxOk M is w.drew := ⟨M.drew.kept, fun i _ c hc => M.drew.ok i c hc⟩
theorem ixOk_nil (hk : Kept F w0 w') : IxOk M [] w' := ⟨hk, fun _ h => by cases h⟩
theorem ixOk_cons {i : Nat} {c : Chunk} (hi : L[i]? = some c) (h : c.ok w') (r : IxOk M is w') : IxOk M (i :: is) w' := ⟨r.1, fun j hj d hd => by
  rcases List.mem_cons.1 hj with rfl | hj
  · rw [hi] at hd; cases hd; exact h
  · exact r.2 j hj d hd⟩
theorem rowCell {g : Nat} {cs : List Value} (h : (Chunk.row g cs).ok w') {off : Nat} {v : Value} (hv : cs[off]? = some v) : w'.cell? ⟨g, off, none⟩ = some v := by
  have := h.2.1 off v hv; rwa [Nat.zero_add] at this
theorem stab_ix (M : Mem F w0 w L) (i : Nat) (off : Nat) {t : TypeId} {x : Operand} (ho : o.op = .load t x) {g : Nat} {cs : List Value} (hi : L[i]? = some (.row g cs)) (hin : i ∈ is) (ht : scalarT P t = true) {v : Value} (hv : cs[off]? = some v) : Stab P (IxOk M is) o (.pointer (some ⟨g, off, none⟩)) := by
  unfold Stab; rw [ho]
  refine ⟨v, fun w' hw => ?_⟩
  simp only [Instr.loadAt, Instr.sureAddr, Sem.run_bind, Sem.run_pure, Result.andThen_ok, run_loadVar_scalar ht w' g off v (rowCell (hw.2 i hin _ hi) hv)]
theorem stab_ixB (M : Mem F w0 w L) (i : Nat) (off : Nat) {t : TypeId} {x : Operand} (ho : o.op = .load t x) {g : Nat} {l : List UInt8} (hi : L[i]? = some (.row g (bs l))) (hin : i ∈ is) (ht : scalarT P t = true) (hlt : off < l.length) : Stab P (IxOk M is) o (.pointer (some ⟨g, off, none⟩)) :=
  stab_ix M i off ho hi hin ht (getD_some hlt)
theorem stab_ixA (M : Mem F w0 w L) (i : Nat) (off : Nat) {t : TypeId} {x : Operand} (ho : o.op = .load t x) {g : Nat} {cs : List Value} (hi : L[i]? = some (.row g cs)) (hin : i ∈ is) (ht : rowT P t = true) (pre mid post : List Value) (hcs : cs = pre ++ (mid ++ post)) (hpre : pre.length = off) (hn : (P.info? t).map (·.size) = some mid.length) : Stab P (IxOk M is) o (.pointer (some ⟨g, off, none⟩)) := by
  unfold rowT at ht
  cases hu : P.underlying t with
  | none => simp [hu] at ht
  | some d =>
    simp only [hu] at ht
    refine stab_load ho g off mid d (fun w' hw j v hv => rowCell (hw.2 i hin _ hi) ?_) hu ht hn
    have hj : j < mid.length := (List.getElem?_eq_some_iff.1 hv).1
    rw [hcs, ← hpre, List.getElem?_append_right (by omega), Nat.add_sub_cancel_left, List.getElem?_append_left hj]; exact hv
theorem stab_ixR (M : Mem F w0 w L) (i : Nat) {t : TypeId} {x : Operand} (ho : o.op = .load t x) {g : Nat} {cs : List Value} (hi : L[i]? = some (.row g cs)) (hin : i ∈ is) (ht : rowT P t = true) (hn : (P.info? t).map (·.size) = some cs.length) : Stab P (IxOk M is) o (.pointer (some ⟨g, 0, none⟩)) :=
  stab_ixA M i 0 ho hi hin ht [] cs [] (by simp) rfl hn
theorem stab_ixH (M : Mem F w0 w L) (i : Nat) {t : TypeId} {x : Operand} (ho : o.op = .load t x) {g : Nat} {l : List UInt8} (hi : L[i]? = some (.row g (bs l))) (hin : i ∈ is) (ht : rowT P t = true) {n : Nat} (hl : l.length = n) (hn : (P.info? t).map (·.size) = some n) : Stab P (IxOk M is) o (.pointer (some ⟨g, 0, none⟩)) :=
  stab_ixR M i ho hi hin ht (by rw [bs_length, hl]; exact hn)
/-- string(a[:]), a an array. -/
theorem stab_ixW (M : Mem F w0 w L) (i : Nat) {src dst e : TypeId} {x : Operand} (ho : o.op = .convert src dst x) {g : Nat} {l : List UInt8} (hi : L[i]? = some (.row g (bs l))) (hin : i ∈ is) {n : Nat} (hl : l.length = n) (hm : n ≤ maxLen) (hs : P.underlying src = some (.slice e)) (he : P.underlying e = some (.int .u8)) (hd : P.underlying dst = some .string) : Stab P (IxOk M is) o (.slice (some ⟨g, 0, none⟩) n n) := by
  refine stab_conv ho _ l (fun w' hw => ?_) hs he hd
  have := row_sees (off := 0) (n := n) (cap := n) (hw.2 i hin _ hi) (by omega) (Nat.le_refl _) hm
  rwa [List.drop_zero, List.take_of_length_le (by omega)] at this
/-- string(b), b owned. -/
theorem stab_ixS (M : Mem F w0 w L) (i : Nat) {src dst e : TypeId} {x : Operand} (ho : o.op = .convert src dst x) {v : Value} {n : Nat} {l : List UInt8} (hi : L[i]? = some (.sl 1 v n (bs l))) (hin : i ∈ is) (hl : n = l.length) (hs : P.underlying src = some (.slice e)) (he : P.underlying e = some (.int .u8)) (hd : P.underlying dst = some .string) : Stab P (IxOk M is) o v := by
  subst hl
  exact stab_conv ho v l (fun w' hw => Own.sees (hw.2 i hin _ hi)) hs he hd
end
theorem needs_at {l : List Value} {d : List Deferred} {n : Nat} {s : Shape} {r : Needs} {v : Value} (h : l[n]? = some v) (hs : s.ok v = true) (k : needOk r ⟨l.toArray, d⟩ = true) : needOk ((n, s) :: r) ⟨l.toArray, d⟩ = true :=
  needs_cons (by simpa [h] using hs) k
theorem nums_bs (l : List UInt8) : Shape.ok .nums (.agg (bs l).toArray) = true := nums_vb l
end TL
end Go

/- Slices of structs, as the walk reads them, by elements. No conditions but those each law names. -/
namespace Go
namespace TL
open Go.RowKit
theorem flat_len {α : Type} {f : α → List Value} {size : Nat} (hf : ∀ x, (f x).length = size) (l : List α) : (l.flatMap f).length = l.length * size := by
  induction l with
  | nil => simp
  | cons a l ih => simp only [List.flatMap_cons, List.length_append, ih, hf, List.length_cons, Nat.succ_mul]; omega
theorem flat_get {α : Type} {f : α → List Value} {size : Nat} (hf : ∀ x, (f x).length = size) : ∀ (l : List α) (k : Nat) (x : α), l[k]? = some x → ∀ j, j < size → (l.flatMap f)[k * size + j]? = (f x)[j]?
  | [], k, x, h, _, _ => by simp at h
  | a :: l, 0, x, h, j, hj => by
    simp only [List.getElem?_cons_zero, Option.some.injEq] at h; subst h
    rw [List.flatMap_cons, Nat.zero_mul, Nat.zero_add, List.getElem?_append_left (by rw [hf]; exact hj)]
  | a :: l, k + 1, x, h, j, hj => by
    rw [List.flatMap_cons, List.getElem?_append_right (by rw [hf, Nat.succ_mul]; omega), hf, Nat.succ_mul, show k * size + size + j - size = k * size + j by omega]
    exact flat_get hf l k x (by simpa using h) j hj
/-- A slice's elements, seen: each is a row of 'size' cells. -/
structure SeesL {α : Type} (w : World) (size : Nat) (f : α → List Value) (v : Value) (l : List α) : Prop where
  sees : Sees w size v l.length (l.flatMap f)
  size : ∀ x, (f x).length = size
section
variable {α : Type} {P : Program} {ops : Array Oper} {rest : List Oper} {o : Oper} {a : Act} {w w0 : World} {Q : Exit → Act → World → Prop} {L : List Chunk} {size : Nat} {f : α → List Value} {v : Value} {l : List α}
theorem SeesL.form (S : SeesL w size f v l) : ∃ p cap, v = .slice p l.length cap ∧ l.length ≤ cap := S.sees.form
theorem SeesL.addr {p : Option Addr} {n cap : Nat} (S : SeesL w size f (.slice p n cap) l) (h : 0 < l.length) : ∃ g so, p = some ⟨g, so, none⟩ := by
  rcases S.sees.2 with ⟨_, h0⟩ | ⟨g, so, c, hv, _⟩
  · omega
  · injection hv with h1 h2 h3; exact ⟨g, so, h1⟩
theorem SeesL.cell {g so n cap : Nat} (S : SeesL w size f (.slice (some ⟨g, so, none⟩) n cap) l) {k : Nat} {x : α} (hk : l[k]? = some x) {j : Nat} {val : Value} (hv : (f x)[j]? = some val) : w.cell? ⟨g, so + (k * size + j), none⟩ = some val := by
  have hj : j < size := by rw [← S.size x]; exact (List.getElem?_eq_some_iff.1 hv).1
  rcases S.sees.2 with ⟨h0, _⟩ | ⟨g', o', c, hv', _, _, _, hr⟩
  · cases h0
  · injection hv' with h1 _ _; injection h1 with h1; injection h1 with h1 h2; subst h1; subst h2
    exact hr _ _ ((flat_get S.size l k x hk j hj).trans hv)
theorem SeesL.kept {G : List Nat} {w' : World} (S : SeesL w size f v l) (h : Kept G w w') (hG : ∀ k, v.ownBlock = some k → k ∉ G) : SeesL w' size f v l := by
  refine ⟨⟨S.sees.1, S.sees.2.imp id ?_⟩, S.size⟩
  rintro ⟨g, so, cap, rfl, hlt, hn, hc, hr⟩
  exact ⟨g, so, cap, rfl, Nat.lt_of_lt_of_le hlt h.size, hn, hc, rangeAt_of_block hr (h.block g hlt (hG g rfl))⟩
theorem SeesL.below {w' : World} (S : SeesL w size f v l) (h : Below w.heap.size w w') : SeesL w' size f v l := S.kept (Kept.of_below h []) (by simp)
theorem SeesL.now (M : Mem [] w0 w L) (S : SeesL w0 size f v l) : SeesL w size f v l := S.kept M.kept (by simp)
theorem seesL_nil (size : Nat) (f : α → List Value) (hf : ∀ x, (f x).length = size) (w : World) : SeesL w size f (.slice none 0 0) [] := ⟨Sees_nil _ _, hf⟩
/-- A piece of the walk's own, seen. -/
theorem SeesL.own {F : List Nat} (M : Mem F w0 w L) (i : Nat) {n : Nat} (hi : L[i]? = some (.sl size v n (l.flatMap f))) (hn : n = l.length) (hf : ∀ x, (f x).length = size) : SeesL w size f v l := by
  subst hn; exact ⟨Own.sees (M.ok i _ hi), hf⟩
/-- A field of an element. -/
theorem w_see (M : Mem [] w0 w L) {g so n cap : Nat} (S : SeesL w0 size f (.slice (some ⟨g, so, none⟩) n cap) l) {k : Nat} {x : α} (hk : l[k]? = some x) (t : TypeId) (op : Operand) (ho : o.op = .load t op) {off : Nat} (hx : a.eval op = .pointer (some ⟨g, off, none⟩)) (hw : Region.wanted o (yielded ops a.tmps) = true)
    (ht : scalarT P t = true) (j : Nat) (hoff : off = so + (k * size + j)) {val : Value} (hv : (f x)[j]? = some val) (h : wpList P ops Q rest (a.put o.dst val) w) : wpList P ops Q (o :: rest) a w :=
  wpW hw fun _ hK => by
    subst hoff
    unfold Oper.wp execOp
    simp only [ho, hx, Instr.loadAt, Instr.sureAddr, Sem.run_bind, Sem.run_pure, Result.andThen_ok, run_loadVar_scalar ht w g _ val ((S.now M).cell hk hv)]
    exact hK _ _ h
/-- A whole element. -/
theorem w_seeA (M : Mem [] w0 w L) {g so n cap : Nat} (S : SeesL w0 size f (.slice (some ⟨g, so, none⟩) n cap) l) {k : Nat} {x : α} (hk : l[k]? = some x) (t : TypeId) (op : Operand) (ho : o.op = .load t op) {off : Nat} (hx : a.eval op = .pointer (some ⟨g, off, none⟩)) (hw : Region.wanted o (yielded ops a.tmps) = true)
    (ht : rowT P t = true) (hoff : off = so + k * size) (hn : (P.info? t).map (·.size) = some (f x).length) (h : wpList P ops Q rest (a.put o.dst (.agg (f x).toArray)) w) : wpList P ops Q (o :: rest) a w :=
  wpW hw fun _ hK => by
    subst hoff
    unfold rowT at ht
    cases hu : P.underlying t with
    | none => simp [hu] at ht
    | some d =>
      simp only [hu] at ht
      refine wp_load_mid t op ho g _ hx (f x) d ?_ hu ht hn (hK _ _ h)
      intro j val hv
      rw [Nat.add_assoc]
      exact (S.now M).cell hk hv
/-- A field of an element, as a region's load that may come at any time. -/
theorem stab_see (M : Mem [] w0 w L) {is : List Nat} {g so n cap : Nat} (S : SeesL w0 size f (.slice (some ⟨g, so, none⟩) n cap) l) {k : Nat} {x : α} (hk : l[k]? = some x) (j : Nat) {t : TypeId} {op : Operand} (ho : o.op = .load t op) (ht : scalarT P t = true) {val : Value} (hv : (f x)[j]? = some val) :
    Stab P (IxOk M is) o (.pointer (some ⟨g, so + (k * size + j), none⟩)) := by
  unfold Stab; rw [ho]
  refine ⟨val, fun w' hw => ?_⟩
  simp only [Instr.loadAt, Instr.sureAddr, Sem.run_bind, Sem.run_pure, Result.andThen_ok, run_loadVar_scalar ht w' g _ val ((S.kept hw.1 (by simp)).cell hk hv)]
theorem stab_seeA (M : Mem [] w0 w L) {is : List Nat} {g so n cap : Nat} (S : SeesL w0 size f (.slice (some ⟨g, so, none⟩) n cap) l) {k : Nat} {x : α} (hk : l[k]? = some x) {t : TypeId} {op : Operand} (ho : o.op = .load t op) (ht : rowT P t = true) (hn : (P.info? t).map (·.size) = some (f x).length) :
    Stab P (IxOk M is) o (.pointer (some ⟨g, so + k * size, none⟩)) := by
  unfold rowT at ht
  cases hu : P.underlying t with
  | none => simp [hu] at ht
  | some d =>
    simp only [hu] at ht
    refine stab_load ho g _ (f x) d (fun w' hw j val hv => ?_) hu ht hn
    rw [Nat.add_assoc]
    exact (S.kept hw.1 (by simp)).cell hk hv
end
/-- A pair's cells. -/
def prV (x : List UInt8 × List UInt8) : List Value := [.string (mkS x.1), .string (mkS x.2)]
@[go_sem] theorem prV_eq (a b : List UInt8) : prV (a, b) = [.string (mkS a), .string (mkS b)] := rfl
theorem prV_len (x : List UInt8 × List UInt8) : (prV x).length = 2 := rfl
end TL
end Go

/- Plain laws of layer 12 (batch): which operations may be, a batch's bytes, and how they are read. No program in this text. No conditions but those each lemma names. -/
namespace Go
namespace TL
open Go.RowKit
abbrev Opr : Type := UInt8 × List UInt8 × List UInt8
abbrev Mt : Type := List UInt8 × Bool
/-- An operation's cells. -/
def opV (x : Opr) : List Value := [.int .u8 (I8 x.1), .string (mkS x.2.1), .string (mkS x.2.2)]
@[go_sem] theorem opV_eq (a : UInt8) (b c : List UInt8) : opV (a, b, c) = [.int .u8 (I8 a), .string (mkS b), .string (mkS c)] := rfl
theorem opV_len (x : Opr) : (opV x).length = 3 := rfl
/-- A mount's cells. -/
def mtV (x : Mt) : List Value := [.string (mkS x.1), .bool x.2]
@[go_sem] theorem mtV_eq (a : List UInt8) (b : Bool) : mtV (a, b) = [.string (mkS a), .bool b] := rfl
theorem mtV_len (x : Mt) : (mtV x).length = 2 := rfl
/-! ### Great ones -/
def greatM (l : List Mt) : Bool := decide (100 < l.length) || l.any fun x => decide (1000 < x.1.length)
theorem greatM_at {l : List Mt} {k : Nat} {x : Mt} (h : l[k]? = some x) (hb : 1000 < x.1.length) : greatM l = true := by
  unfold greatM
  rw [Bool.or_eq_true]; right
  rw [List.any_eq_true]
  exact ⟨x, List.mem_of_getElem? h, by simpa using hb⟩
theorem greatM_no {l : List Mt} (hl : l.length ≤ 100) (h : ∀ (k : Nat) (x : Mt), l[k]? = some x → ¬ 1000 < x.1.length) : greatM l = false := by
  unfold greatM
  rw [Bool.or_eq_false_iff]
  refine ⟨by simpa using hl, ?_⟩
  rw [List.any_eq_false]
  intro x hx
  obtain ⟨k, hk⟩ := List.getElem?_of_mem hx
  simpa using h k x hk
theorem greatM_small {l : List Mt} (h : greatM l = false) : l.length ≤ 100 ∧ ∀ x ∈ l, x.1.length ≤ 1000 := by
  unfold greatM at h
  rw [Bool.or_eq_false_iff, List.any_eq_false] at h
  refine ⟨by simpa using h.1, fun x hx => ?_⟩
  have := h.2 x hx
  simp at this; omega
def greatO (l : List Opr) : Bool := decide (100 < l.length) || l.any fun x => decide (1000 < x.2.1.length) || decide (1000 < x.2.2.length)
theorem greatO_at {l : List Opr} {k : Nat} {x : Opr} (h : l[k]? = some x) (hb : 1000 < x.2.1.length ∨ 1000 < x.2.2.length) : greatO l = true := by
  unfold greatO
  rw [Bool.or_eq_true]; right
  rw [List.any_eq_true]
  exact ⟨x, List.mem_of_getElem? h, by simpa using hb⟩
theorem greatO_no {l : List Opr} (hl : l.length ≤ 100) (h : ∀ (k : Nat) (x : Opr), l[k]? = some x → ¬ (1000 < x.2.1.length ∨ 1000 < x.2.2.length)) : greatO l = false := by
  unfold greatO
  rw [Bool.or_eq_false_iff]
  refine ⟨by simpa using hl, ?_⟩
  rw [List.any_eq_false]
  intro x hx
  obtain ⟨k, hk⟩ := List.getElem?_of_mem hx
  simpa using h k x hk
theorem greatO_small {l : List Opr} (h : greatO l = false) : l.length ≤ 100 ∧ ∀ x ∈ l, x.2.1.length ≤ 1000 ∧ x.2.2.length ≤ 1000 := by
  unfold greatO at h
  rw [Bool.or_eq_false_iff, List.any_eq_false] at h
  refine ⟨by simpa using h.1, fun x hx => ?_⟩
  have := h.2 x hx
  simp at this; omega
/-! ### Mounts -/
/-- The first mount of a name. -/
def findM (l : List Mt) (m : List UInt8) : Nat := l.findIdx fun x => x.1 == m
theorem findM_at {l : List Mt} {m : List UInt8} {k : Nat} {x : Mt} (h : l[k]? = some x) (hx : x.1 = m) (hb : ∀ (j : Nat) (y : Mt), j < k → l[j]? = some y → y.1 ≠ m) : findM l m = k := by
  obtain ⟨hk, rfl⟩ := List.getElem?_eq_some_iff.1 h
  unfold findM
  rw [List.findIdx_eq hk]
  refine ⟨by simpa using hx, fun j hj => ?_⟩
  have := hb j l[j] hj (List.getElem?_eq_getElem (by omega))
  simpa using this
theorem findM_no {l : List Mt} {m : List UInt8} (hb : ∀ (j : Nat) (y : Mt), l[j]? = some y → y.1 ≠ m) : findM l m = l.length := by
  unfold findM
  rw [List.findIdx_eq_length]
  intro x hx
  obtain ⟨k, hk⟩ := List.getElem?_of_mem hx
  simpa using hb k x hk
/-- A path's mount, or why there is none. -/
def ofP (l : List Mt) (p : List UInt8) : Mt × Nat :=
  if (cutL p).2.2 = true then
    if findM l (cutL p).1 < l.length then (l.getD (findM l (cutL p).1) ([], false), 0) else (([], false), 21)
  else (([], false), 20)
theorem ofP_key {l : List Mt} {p : List UInt8} (h : (cutL p).2.2 = false) : ofP l p = (([], false), 20) := by unfold ofP; rw [if_neg (by rw [h]; decide)]
theorem ofP_no {l : List Mt} {p m k : List UInt8} (h : cutL p = (m, k, true)) (hf : findM l m = l.length) : ofP l p = (([], false), 21) := by unfold ofP; rw [h, if_pos rfl, hf, if_neg (by omega)]
theorem ofP_yes {l : List Mt} {p m k : List UInt8} {i : Nat} {x : Mt} (h : cutL p = (m, k, true)) (hf : findM l m = i) (hx : l[i]? = some x) : ofP l p = (x, 0) := by
  obtain ⟨hi, rfl⟩ := List.getElem?_eq_some_iff.1 hx
  unfold ofP; rw [h, if_pos rfl, hf, if_pos hi, List.getD_eq_getElem?_getD, hx]; rfl
/-- Is a path shipped? -/
def shipL (l : List Mt) (p : List UInt8) : Bool := (ofP l p).2 == 0 && (ofP l p).1.2
/-! ### Operations -/
/-- Why an operation may not be; of: why a path may not. -/
def opE (f : List UInt8 → Nat) (x : Opr) : Nat :=
  if x.1 = 1 ∨ x.1 = 2 then
    if f x.2.1 = 0 then
      if x.2.2.length ≤ 32 then (if x.1 = 2 ∧ x.2.2 ≠ [] then 1 else 0) else 3
    else f x.2.1
  else 10
def eachE (f : List UInt8 → Nat) : List Opr → Nat
  | [] => 0
  | x :: l => if opE f x = 0 then eachE f l else opE f x
theorem each_at {f : List UInt8 → Nat} : ∀ {l : List Opr} {k : Nat} {x : Opr}, l[k]? = some x → (∀ (j : Nat) (y : Opr), j < k → l[j]? = some y → opE f y = 0) → opE f x ≠ 0 → eachE f l = opE f x
  | [], k, x, h, _, _ => by simp at h
  | y :: l, 0, x, h, _, hx => by
    have : y = x := by simpa using h
    subst this; rw [eachE, if_neg hx]
  | y :: l, k + 1, x, h, hb, hx => by
    rw [eachE, if_pos (hb 0 y (by omega) rfl)]
    exact each_at (l := l) (k := k) (by simpa using h) (fun j z hj hz => hb (j + 1) z (by omega) (by simpa using hz)) hx
theorem each_all {f : List UInt8 → Nat} : ∀ {l : List Opr}, (∀ (j : Nat) (y : Opr), l[j]? = some y → opE f y = 0) → eachE f l = 0
  | [], _ => rfl
  | y :: l, hb => by
    rw [eachE, if_pos (hb 0 y rfl)]
    exact each_all fun j z hz => hb (j + 1) z (by simpa using hz)
theorem each_ok {f : List UInt8 → Nat} : ∀ {l : List Opr}, eachE f l = 0 → ∀ x ∈ l, opE f x = 0
  | [], _, x, hx => by cases hx
  | y :: l, h, x, hx => by
    rw [eachE] at h
    split at h
    · rename_i h0
      rcases List.mem_cons.1 hx with rfl | hx
      · exact h0
      · exact each_ok h x hx
    · rename_i h0; exact absurd h h0
theorem each_of {f : List UInt8 → Nat} {l : List Opr} (h : ∀ x ∈ l, opE f x = 0) : eachE f l = 0 := each_all fun j y hy => h y (List.mem_of_getElem? hy)
theorem op_kind {f : List UInt8 → Nat} {x : Opr} (h : ¬ (x.1 = 1 ∨ x.1 = 2)) : opE f x = 10 := if_neg h
theorem op_path {f : List UInt8 → Nat} {x : Opr} (h : x.1 = 1 ∨ x.1 = 2) (h2 : f x.2.1 ≠ 0) : opE f x = f x.2.1 := by unfold opE; rw [if_pos h, if_neg h2]
theorem op_long {f : List UInt8 → Nat} {x : Opr} (h : x.1 = 1 ∨ x.1 = 2) (h2 : f x.2.1 = 0) (h3 : 32 < x.2.2.length) : opE f x = 3 := by unfold opE; rw [if_pos h, if_pos h2, if_neg (by omega)]
theorem op_arg {f : List UInt8 → Nat} {x : Opr} (h : x.1 = 2) (h2 : f x.2.1 = 0) (h3 : x.2.2.length ≤ 32) (h4 : x.2.2 ≠ []) : opE f x = 1 := by unfold opE; rw [if_pos (.inr h), if_pos h2, if_pos h3, if_pos ⟨h, h4⟩]
theorem op_good {f : List UInt8 → Nat} {x : Opr} (h : x.1 = 1 ∨ x.1 = 2) (h2 : f x.2.1 = 0) (h3 : x.2.2.length ≤ 32) (h4 : x.1 = 2 → x.2.2 = []) : opE f x = 0 := by
  unfold opE; rw [if_pos h, if_pos h2, if_pos h3, if_neg (fun h => h.2 (h4 h.1))]
theorem op_zero {f : List UInt8 → Nat} {x : Opr} (h : opE f x = 0) : (x.1 = 1 ∨ x.1 = 2) ∧ f x.2.1 = 0 ∧ x.2.2.length ≤ 32 ∧ (x.1 = 2 → x.2.2 = []) := by
  unfold opE at h
  split at h
  · rename_i h1
    split at h
    · rename_i h2
      split at h
      · rename_i h3
        split at h
        · cases h
        · rename_i h4
          refine ⟨h1, h2, h3, fun e => ?_⟩
          by_cases hn : x.2.2 = []
          · exact hn
          · exact absurd ⟨e, hn⟩ h4
      · cases h
    · rename_i h2; exact absurd h h2
  · cases h
def cutE (p : List UInt8) : Nat := if (cutL p).2.2 = true then 0 else 20
/-- May operations be? -/
def mayO (l : List Mt) (ops : List Opr) : Nat := if ops.length = 0 then 1 else if 4 < ops.length then 3 else eachE (fun p => (ofP l p).2) ops
/-- Is a batch right? -/
def rightB (i e : Int) (ops : List Opr) : Nat := if i < 1 ∨ 4611686018427387904 < i ∨ e < 1 then 1 else if 4 < ops.length then 3 else eachE cutE ops
theorem right_ok {i e : Int} {ops : List Opr} (h : rightB i e ops = 0) : 1 ≤ i ∧ i ≤ 4611686018427387904 ∧ 1 ≤ e ∧ ops.length ≤ 4 ∧ eachE cutE ops = 0 := by
  unfold rightB at h
  split at h
  · cases h
  · rename_i h1
    split at h
    · cases h
    · rename_i h2; exact ⟨by omega, by omega, by omega, by omega, h⟩
def opB (x : Opr) : List UInt8 := x.1 :: (textL x.2.1 ++ if x.1 = 1 then textL x.2.2 else [])
/-- A batch's bytes. -/
def batB (i e : Nat) (ops : List Opr) : List UInt8 := numL i ++ (numL e ++ (numL ops.length ++ ops.flatMap opB))
def bytesB (i e : Int) (ops : List Opr) : List UInt8 × Nat := if rightB i e ops = 0 then (batB i.toNat e.toNat ops, 0) else ([], rightB i e ops)
/-- What is shipped. -/
def filtB (l : List Mt) (ops : List Opr) : List Opr := ops.filter fun x => shipL l x.2.1
/-- A kind that is none. -/
def InS.bad (x : InS) (e : Nat) : InS := ⟨x.rest, x.read, e⟩
/-- Operations, read one behind the other. -/
def rdOps : Nat → InS → List Opr × InS
  | 0, x => ([], x)
  | n + 1, x =>
    if x.byte.2.err = 0 then
      if x.byte.1 = 1 ∨ x.byte.1 = 2 then
        ((UInt8.ofNat x.byte.1, (x.byte.2.text 33).1, if x.byte.1 = 1 then ((x.byte.2.text 33).2.text 32).1 else []) :: (rdOps n (if x.byte.1 = 1 then ((x.byte.2.text 33).2.text 32).2 else (x.byte.2.text 33).2)).1,
          (rdOps n (if x.byte.1 = 1 then ((x.byte.2.text 33).2.text 32).2 else (x.byte.2.text 33).2)).2)
      else ([], x.byte.2.bad 10)
    else ([], x.byte.2)
/-- The reader behind a batch's three numbers. -/
def nums3 (s : List UInt8) : Nat × Nat × Nat × InS :=
  let a := (InS.mk s 0 0).most 4611686018427387904
  let b := a.2.most 9223372036854775807
  let c := b.2.most 4
  (a.1, b.1, c.1, c.2)
/-- The batch of bytes, or the fault. -/
def readB (s : List UInt8) : (Nat × Nat × List Opr) × Nat :=
  let q := nums3 s
  let r := rdOps q.2.2.1 q.2.2.2
  if r.2.fin = 0 then
    if rightB q.1 q.2.1 r.1 = 0 then ((q.1, q.2.1, r.1), 0) else ((0, 0, []), rightB q.1 q.2.1 r.1)
  else ((0, 0, []), r.2.fin)
end TL
end Go

/-
  DERIVED: THE SHELF's CONTRACTS AT THIS DUMP, IN PLAIN WORDS (tools/lay-plain.mjs out of 'TryShelf.lean', which tools/lay-shelf.mjs wrote): THE SAME DECLARATIONS UNDER THE SAME NAMES: 'import', 'namespace', 'open', 'def', 'theorem' AND NOTHING ELSE: no command of the shelf's: FOR A HAND-IN. Each laying: the table of numbers ('.._ren') and one theorem, a field a fact of the dump's own or the kernel's comparison; each contract: ONE APPLICATION.
-/
namespace Go.Proofs
open Go.Shelf
def Try.lays170_ren : Go.Shelf.Ren := ⟨fun | 170 => 58 | n => n, fun | 70 => 91 | 3 => 3 | 0 => 0 | 72 => 93 | 37 => 76 | 5 => 5 | n => n, fun | n => n⟩
theorem Try.lays170 : Go.Proofs.Lays.n170 Try.prog Try.lays170_ren := {
  mixed := by kernel_rfl
  f170 := Try.func58.trans (congrArg some (by kernel_rfl))
  t0 := Try.underlying0
  a0 := Try.isAgg0
  z0 := Try.sizeOf0
  v0 := Try.zeroValue0
  t3 := Try.underlying3
  a3 := Try.isAgg3
  z3 := Try.sizeOf3
  v3 := Try.zeroValue3
  t37 := Try.underlying76
  a37 := Try.isAgg76
  z37 := Try.sizeOf76
  v37 := Try.zeroValue76
  t70 := Try.underlying91
  a70 := Try.isAgg91
  z70 := Try.sizeOf91
  v70 := Try.zeroValue91
  t72 := Try.underlying93
  a72 := Try.isAgg93
  z72 := Try.sizeOf93
  v72 := Try.zeroValue93 }
open Go.RowKit in
/-- (*strings.Builder).Len: "Len returns the number of accumulated bytes; b.Len() == len(b.String()).": the world is as it was. (LAID: no walk: one application.) -/
theorem Try.Builder_Len (B b : Nat) (bs : List Value) (w : World) (h : Lib.IsBuilder 93 5 B b bs w) :
    Calls Try.prog 58 #[.pointer (some ⟨b, 0, none⟩)] w fun e w' => e = .returned (.int .i64 bs.length) ∧ w' = w := Any.Builder_Len Try.lays170 B b bs w h
def Try.lays169_ren : Go.Shelf.Ren := ⟨fun | 169 => 59 | n => n, fun | 70 => 91 | 9 => 9 | 0 => 0 | 72 => 93 | 37 => 76 | 127 => 115 | 3 => 3 | 5 => 5 | n => n, fun | n => n⟩
theorem Try.lays169 : Go.Proofs.Lays.n169 Try.prog Try.lays169_ren := {
  mixed := by kernel_rfl
  f169 := Try.func59.trans (congrArg some (by kernel_rfl))
  t0 := Try.underlying0
  a0 := Try.isAgg0
  z0 := Try.sizeOf0
  v0 := Try.zeroValue0
  t3 := Try.underlying3
  a3 := Try.isAgg3
  z3 := Try.sizeOf3
  v3 := Try.zeroValue3
  t9 := Try.underlying9
  a9 := Try.isAgg9
  z9 := Try.sizeOf9
  v9 := Try.zeroValue9
  t37 := Try.underlying76
  a37 := Try.isAgg76
  z37 := Try.sizeOf76
  v37 := Try.zeroValue76
  t70 := Try.underlying91
  a70 := Try.isAgg91
  z70 := Try.sizeOf91
  v70 := Try.zeroValue91
  t72 := Try.underlying93
  a72 := Try.isAgg93
  z72 := Try.sizeOf93
  v72 := Try.zeroValue93
  t127 := Try.underlying115
  a127 := Try.isAgg115
  z127 := Try.sizeOf115
  v127 := Try.zeroValue115 }
theorem Try.Builder_Extra_169 : Builder.Extra Try.prog Try.lays169_ren := {
  sizeBuilder := by kernel_rfl
  liesBuilder := by kernel_rfl
  t5 := Try.underlying5
  a5 := Try.isAgg5
  z5 := Try.sizeOf5
  v5 := Try.zeroValue5
  infoByte := by kernel_rfl
  cellsByte := by kernel_rfl
  sizeByte := by kernel_rfl
  neB5 := by decide }
open Go.RowKit in
/-- (*strings.Builder).String: "String returns the accumulated string.": OF A BUILDER THAT HOLDS AT LEAST ONE BYTE. ✋ THE MODEL FREEZES THOSE BYTES IN THE BUFFER (unsafe.String): a later write INTO them ends the model's run without an answer; a later append BEHIND them goes on. The statement's order of evaluation is drawn: one draw. (LAID: no walk: one application.) -/
theorem Try.Builder_String (B b : Nat) (l : List UInt8) (w : World) (h : Lib.IsBuilder 93 5 B b (Lib.byteCells l) w) (h0 : l ≠ []) :
    Calls Try.prog 59 #[.pointer (some ⟨b, 0, none⟩)] w fun e w' => e = .returned (.string ⟨l.toArray⟩) ∧ Below B w w' := Any.Builder_String Try.lays169 Try.Builder_Extra_169 B b l w h h0
open Go.RowKit in
/-- (*strings.Builder).String OF A BUILDER THAT HOLDS NO BYTE: the empty string. (Its buffer is nil, or a row of which it has taken nothing yet; where that row has NO capacity the model lays one new block for unsafe.SliceData's 'some address'.) One draw. (LAID: no walk: one application.) -/
theorem Try.Builder_String_empty (B b : Nat) (w : World) (h : Lib.IsBuilder 93 5 B b [] w) (hBw : B ≤ w.heap.size) :
    Calls Try.prog 59 #[.pointer (some ⟨b, 0, none⟩)] w fun e w' => e = .returned (.string ⟨#[]⟩) ∧ Below B w w' := Any.Builder_String_empty Try.lays169 Try.Builder_Extra_169 B b w h hBw
open Go.RowKit in
/-- (*strings.Builder).String: "String returns the accumulated string.": WHATEVER THE BUILDER HOLDS. (LAID: no walk: one application.) -/
theorem Try.Builder_String_any (B b : Nat) (l : List UInt8) (w : World) (h : Lib.IsBuilder 93 5 B b (Lib.byteCells l) w) (hBw : B ≤ w.heap.size) :
    Calls Try.prog 59 #[.pointer (some ⟨b, 0, none⟩)] w fun e w' => e = .returned (.string ⟨l.toArray⟩) ∧ Below B w w' := Any.Builder_String_any Try.lays169 Try.Builder_Extra_169 B b l w h hBw
def Try.lays241_ren : Go.Shelf.Ren := ⟨fun | 241 => 76 | 277 => 84 | n => n, fun | 70 => 91 | 3 => 3 | 0 => 0 | 72 => 93 | 37 => 76 | 5 => 5 | n => n, fun | n => n⟩
theorem Try.lays241 : Go.Proofs.Lays.n241 Try.prog Try.lays241_ren := {
  mixed := by kernel_rfl
  f241 := Try.func76.trans (congrArg some (by kernel_rfl))
  f277 := Try.func84.trans (congrArg some (by kernel_rfl))
  t0 := Try.underlying0
  a0 := Try.isAgg0
  z0 := Try.sizeOf0
  v0 := Try.zeroValue0
  t3 := Try.underlying3
  a3 := Try.isAgg3
  z3 := Try.sizeOf3
  v3 := Try.zeroValue3
  t37 := Try.underlying76
  a37 := Try.isAgg76
  z37 := Try.sizeOf76
  v37 := Try.zeroValue76
  t70 := Try.underlying91
  a70 := Try.isAgg91
  z70 := Try.sizeOf91
  v70 := Try.zeroValue91
  t72 := Try.underlying93
  a72 := Try.isAgg93
  z72 := Try.sizeOf93
  v72 := Try.zeroValue93 }
theorem Try.Builder_Extra_241 : Builder.Extra Try.prog Try.lays241_ren := {
  sizeBuilder := by kernel_rfl
  liesBuilder := by kernel_rfl
  t5 := Try.underlying5
  a5 := Try.isAgg5
  z5 := Try.sizeOf5
  v5 := Try.zeroValue5
  infoByte := by kernel_rfl
  cellsByte := by kernel_rfl
  sizeByte := by kernel_rfl
  neB5 := by decide }
open Go.RowKit in
/-- (*strings.Builder).grow (no doc but "grow copies the buffer to a new, larger buffer so that there are at least n bytes of capacity beyond len(b.buf)."): AT A BUILDER WITHOUT A BUFFER: a new row of whatever bytes for its buffer, none of them its own yet. Three draws. (LAID: no walk: one application.) -/
theorem Try.Builder_grow_fresh (B b n : Nat) (w : World) (hB : B ≤ b) (hbk : w.heap[b]? = some (.cells #[.pointer (some ⟨b, 0, none⟩), .slice none 0 0] 93 (0, 0))) (hBw : B ≤ w.heap.size) (hn : n ≤ 281474976710656) :
    Calls Try.prog 76 #[.pointer (some ⟨b, 0, none⟩), .int .i64 n] w fun e w' => e = .returned (.tuple #[]) ∧ (Lib.BuilderAt 93 5 B b (.pointer (some ⟨b, 0, none⟩)) [] w' ∧ Below B w w') := Any.Builder_grow_fresh Try.lays241 Try.Builder_Extra_241 B b n w hB hbk hBw hn
def Try.lays165_ren : Go.Shelf.Ren := ⟨fun | 165 => 56 | 240 => 75 | 241 => 76 | 276 => 83 | 277 => 84 | n => n, fun | 70 => 91 | 3 => 3 | 0 => 0 | 4 => 4 | 9 => 9 | 20 => 20 | 72 => 93 | 37 => 76 | 164 => 119 | 5 => 5 | n => n, fun | n => n⟩
theorem Try.lays165 : Go.Proofs.Lays.n165 Try.prog Try.lays165_ren := {
  mixed := by kernel_rfl
  f165 := Try.func56.trans (congrArg some (by kernel_rfl))
  f240 := Try.func75.trans (congrArg some (by kernel_rfl))
  f241 := Try.func76.trans (congrArg some (by kernel_rfl))
  f276 := Try.func83.trans (congrArg some (by kernel_rfl))
  f277 := Try.func84.trans (congrArg some (by kernel_rfl))
  t0 := Try.underlying0
  a0 := Try.isAgg0
  z0 := Try.sizeOf0
  v0 := Try.zeroValue0
  t3 := Try.underlying3
  a3 := Try.isAgg3
  z3 := Try.sizeOf3
  v3 := Try.zeroValue3
  t4 := Try.underlying4
  a4 := Try.isAgg4
  z4 := Try.sizeOf4
  v4 := Try.zeroValue4
  t9 := Try.underlying9
  a9 := Try.isAgg9
  z9 := Try.sizeOf9
  v9 := Try.zeroValue9
  t20 := Try.underlying20
  a20 := Try.isAgg20
  z20 := Try.sizeOf20
  v20 := Try.zeroValue20
  t37 := Try.underlying76
  a37 := Try.isAgg76
  z37 := Try.sizeOf76
  v37 := Try.zeroValue76
  t70 := Try.underlying91
  a70 := Try.isAgg91
  z70 := Try.sizeOf91
  v70 := Try.zeroValue91
  t72 := Try.underlying93
  a72 := Try.isAgg93
  z72 := Try.sizeOf93
  v72 := Try.zeroValue93
  t164 := Try.underlying119
  a164 := Try.isAgg119
  z164 := Try.sizeOf119
  v164 := Try.zeroValue119 }
theorem Try.Builder_Extra_165 : Builder.Extra Try.prog Try.lays165_ren := {
  sizeBuilder := by kernel_rfl
  liesBuilder := by kernel_rfl
  t5 := Try.underlying5
  a5 := Try.isAgg5
  z5 := Try.sizeOf5
  v5 := Try.zeroValue5
  infoByte := by kernel_rfl
  cellsByte := by kernel_rfl
  sizeByte := by kernel_rfl
  neB5 := by decide }
open Go.RowKit in
/-- (*strings.Builder).Grow AT A BUILDER THAT HAS NOT BEEN WRITTEN ('var b strings.Builder; b.Grow(n)'): "Grow grows b's capacity, if necessary, to guarantee space for another n bytes.": it holds no byte behind it as before it. (LAID: no walk: one application.) -/
theorem Try.Builder_Grow_fresh (B b n : Nat) (w : World) (hB : B ≤ b) (hbk : w.heap[b]? = some (.cells #[.pointer none, .slice none 0 0] 93 (0, 0))) (hBw : B ≤ w.heap.size) (hn : n ≤ 281474976710656) :
    Calls Try.prog 56 #[.pointer (some ⟨b, 0, none⟩), .int .i64 n] w fun e w' => e = .returned (.tuple #[]) ∧ (Lib.BuilderAt 93 5 B b (.pointer (some ⟨b, 0, none⟩)) [] w' ∧ Below B w w') := Any.Builder_Grow_fresh Try.lays165 Try.Builder_Extra_165 B b n w hB hbk hBw hn
def Try.lays137_ren : Go.Shelf.Ren := ⟨fun | 137 => 82 | 217 => 86 | 266 => 90 | n => n, fun | 9 => 9 | 5 => 5 | 3 => 3 | n => n, fun | n => n⟩
theorem Try.lays137 : Go.Proofs.Lays.n137 Try.prog Try.lays137_ren := {
  mixed := by kernel_rfl
  f137 := Try.func82.trans (congrArg some (by kernel_rfl))
  f217 := Try.func86.trans (congrArg some (by kernel_rfl))
  f266 := Try.func90.trans (congrArg some (by kernel_rfl))
  t3 := Try.underlying3
  a3 := Try.isAgg3
  z3 := Try.sizeOf3
  v3 := Try.zeroValue3
  t5 := Try.underlying5
  a5 := Try.isAgg5
  z5 := Try.sizeOf5
  v5 := Try.zeroValue5
  t9 := Try.underlying9
  a9 := Try.isAgg9
  z9 := Try.sizeOf9
  v9 := Try.zeroValue9 }
open Go.RowKit in
/-- strings.IndexByte: "IndexByte returns the index of the first instance of c in s, or -1 if c is not present in s.": IT RETURNS 'Lib.indexByte s c'; the world is as it was. (LAID: no walk: one application.) -/
theorem Try.strings_IndexByte (s : ByteArray) (c : Int) (w : World) :
    Calls Try.prog 82 #[.string s, .int .u8 c] w fun e w' => e = .returned (.int .i64 (Lib.indexByte s.data.toList c.toNat.toUInt8)) ∧ w' = w := Any.strings_IndexByte Try.lays137 s c w
open Go.RowKit in
/-- (*strings.Builder).Len: "Len returns the number of accumulated bytes; b.Len() == len(b.String()).": the world is as it was. (THE FORM '_f': 'Lib.IsBuilderF'.) (LAID: no walk: one application.) -/
theorem Try.Builder_Len_f (B b : Nat) (bs : List Value) (w : World) (h : Lib.IsBuilderF 93 5 B b bs w) :
    Calls Try.prog 58 #[.pointer (some ⟨b, 0, none⟩)] w fun e w' => e = .returned (.int .i64 bs.length) ∧ w' = w := Any.Builder_Len_f Try.lays170 B b bs w h
open Go.RowKit in
/-- (*strings.Builder).String: "String returns the accumulated string.": OF A BUILDER THAT HOLDS AT LEAST ONE BYTE. ✋ THE MODEL FREEZES THOSE BYTES IN THE BUFFER (unsafe.String): a later write INTO them ends the model's run without an answer; a later append BEHIND them goes on. The statement's order of evaluation is drawn: one draw. THE FORM '_f': IT SAYS BESIDES THAT THE BUILDER IS A BUILDER STILL ('Lib.IsBuilderF', the same bytes): SO IT CAN BE WRITTEN ON: 'b.WriteString(b.String()[:k])'. (LAID: no walk: one application.) -/
theorem Try.Builder_String_f (B b : Nat) (l : List UInt8) (w : World) (h : Lib.IsBuilderF 93 5 B b (Lib.byteCells l) w) (h0 : l ≠ []) :
    Calls Try.prog 59 #[.pointer (some ⟨b, 0, none⟩)] w fun e w' => e = .returned (.string ⟨l.toArray⟩) ∧ (Lib.IsBuilderF 93 5 B b (Lib.byteCells l) w' ∧ Below B w w') := Any.Builder_String_f Try.lays169 Try.Builder_Extra_169 B b l w h h0
open Go.RowKit in
/-- (*strings.Builder).String OF A BUILDER THAT HOLDS NO BYTE: the empty string; THE FORM '_f': a builder still. (LAID: no walk: one application.) -/
theorem Try.Builder_String_empty_f (B b : Nat) (w : World) (h : Lib.IsBuilderF 93 5 B b [] w) (hBw : B ≤ w.heap.size) :
    Calls Try.prog 59 #[.pointer (some ⟨b, 0, none⟩)] w fun e w' => e = .returned (.string ⟨#[]⟩) ∧ (Lib.IsBuilderF 93 5 B b [] w' ∧ Below B w w') := Any.Builder_String_empty_f Try.lays169 Try.Builder_Extra_169 B b w h hBw
open Go.RowKit in
/-- (*strings.Builder).String: "String returns the accumulated string.": WHATEVER THE BUILDER HOLDS; THE FORM '_f': OF A BUILDER THAT MAY HAVE BEEN READ BEFORE; AND IT IS A BUILDER STILL, holding the same bytes: it can be written on. (LAID: no walk: one application.) -/
theorem Try.Builder_String_any_f (B b : Nat) (l : List UInt8) (w : World) (h : Lib.IsBuilderF 93 5 B b (Lib.byteCells l) w) (hBw : B ≤ w.heap.size) :
    Calls Try.prog 59 #[.pointer (some ⟨b, 0, none⟩)] w fun e w' => e = .returned (.string ⟨l.toArray⟩) ∧ (Lib.IsBuilderF 93 5 B b (Lib.byteCells l) w' ∧ Below B w w') := Any.Builder_String_any_f Try.lays169 Try.Builder_Extra_169 B b l w h hBw
open Go.RowKit in
/-- (*strings.Builder).String: "String returns the accumulated string.": OF A BUILDER THAT HOLDS AT LEAST ONE BYTE. ✋ THE MODEL FREEZES THOSE BYTES IN THE BUFFER (unsafe.String): a later write INTO them ends the model's run without an answer; a later append BEHIND them goes on. The statement's order of evaluation is drawn: one draw. THE FORM '_k': OVER 'Lib.IsBuilderF' (a builder that 'String()' may have read), AND WITH THE FRAME THAT REACHES ABOVE THE BUILDER: 'Lib.OthersKept': every block that is not b and is no row of uint8's stands as it stood: the iterator of a range among them. (LAID: no walk: one application.) -/
theorem Try.Builder_String_k (B b : Nat) (l : List UInt8) (w : World) (h : Lib.IsBuilderF 93 5 B b (Lib.byteCells l) w) (h0 : l ≠ []) :
    Calls Try.prog 59 #[.pointer (some ⟨b, 0, none⟩)] w fun e w' => e = .returned (.string ⟨l.toArray⟩) ∧ (Lib.IsBuilderF 93 5 B b (Lib.byteCells l) w' ∧ Below B w w' ∧ Lib.OthersKept 5 (some b) w w') := Any.Builder_String_k Try.lays169 Try.Builder_Extra_169 B b l w h h0
open Go.RowKit in
/-- (*strings.Builder).String OF A BUILDER THAT HOLDS NO BYTE: the empty string; THE FORM '_k': OVER 'Lib.IsBuilderF' (a builder that 'String()' may have read), AND WITH THE FRAME THAT REACHES ABOVE THE BUILDER: 'Lib.OthersKept': every block that is not b and is no row of uint8's stands as it stood: the iterator of a range among them. (LAID: no walk: one application.) -/
theorem Try.Builder_String_empty_k (B b : Nat) (w : World) (h : Lib.IsBuilderF 93 5 B b [] w) (hBw : B ≤ w.heap.size) :
    Calls Try.prog 59 #[.pointer (some ⟨b, 0, none⟩)] w fun e w' => e = .returned (.string ⟨#[]⟩) ∧ (Lib.IsBuilderF 93 5 B b [] w' ∧ Below B w w' ∧ Lib.OthersKept 5 (some b) w w') := Any.Builder_String_empty_k Try.lays169 Try.Builder_Extra_169 B b w h hBw
open Go.RowKit in
/-- (*strings.Builder).String: "String returns the accumulated string.": WHATEVER THE BUILDER HOLDS; THE FORM '_k': OVER 'Lib.IsBuilderF' (a builder that 'String()' may have read), AND WITH THE FRAME THAT REACHES ABOVE THE BUILDER: 'Lib.OthersKept': every block that is not b and is no row of uint8's stands as it stood: the iterator of a range among them. (LAID: no walk: one application.) -/
theorem Try.Builder_String_any_k (B b : Nat) (l : List UInt8) (w : World) (h : Lib.IsBuilderF 93 5 B b (Lib.byteCells l) w) (hBw : B ≤ w.heap.size) :
    Calls Try.prog 59 #[.pointer (some ⟨b, 0, none⟩)] w fun e w' => e = .returned (.string ⟨l.toArray⟩) ∧ (Lib.IsBuilderF 93 5 B b (Lib.byteCells l) w' ∧ Below B w w' ∧ Lib.OthersKept 5 (some b) w w') := Any.Builder_String_any_k Try.lays169 Try.Builder_Extra_169 B b l w h hBw
open Go.RowKit in
/-- (*strings.Builder).grow (no doc but "grow copies the buffer to a new, larger buffer so that there are at least n bytes of capacity beyond len(b.buf)."): AT A BUILDER WITHOUT A BUFFER: a new row of whatever bytes for its buffer, none of them its own yet. Three draws. (LAID: no walk: one application.) -/
theorem Try.Builder_grow_fresh_cap (B b n : Nat) (w : World) (hB : B ≤ b) (hbk : w.heap[b]? = some (.cells #[.pointer (some ⟨b, 0, none⟩), .slice none 0 0] 93 (0, 0))) (hBw : B ≤ w.heap.size) (hn : n ≤ 281474976710656) :
    Calls Try.prog 76 #[.pointer (some ⟨b, 0, none⟩), .int .i64 n] w fun e w' => e = .returned (.tuple #[]) ∧ (Lib.BuilderAt 93 5 B b (.pointer (some ⟨b, 0, none⟩)) [] w' ∧ Below B w w') ∧ ∃ p cap, w'.cell? ⟨b, 1, none⟩ = some (.slice p 0 cap) ∧ n ≤ cap := Any.Builder_grow_fresh_cap Try.lays241 Try.Builder_Extra_241 B b n w hB hbk hBw hn
open Go.RowKit in
/-- (*strings.Builder).Grow AT A BUILDER THAT HAS NOT BEEN WRITTEN ('var b strings.Builder; b.Grow(n)'): "Grow grows b's capacity, if necessary, to guarantee space for another n bytes.": it holds no byte behind it as before it. (LAID: no walk: one application.) -/
theorem Try.Builder_Grow_fresh_cap (B b n : Nat) (w : World) (hB : B ≤ b) (hbk : w.heap[b]? = some (.cells #[.pointer none, .slice none 0 0] 93 (0, 0))) (hBw : B ≤ w.heap.size) (hn : n ≤ 281474976710656) :
    Calls Try.prog 56 #[.pointer (some ⟨b, 0, none⟩), .int .i64 n] w fun e w' => e = .returned (.tuple #[]) ∧ (Lib.BuilderAt 93 5 B b (.pointer (some ⟨b, 0, none⟩)) [] w' ∧ Below B w w') ∧ ∃ p cap, w'.cell? ⟨b, 1, none⟩ = some (.slice p 0 cap) ∧ n ≤ cap := Any.Builder_Grow_fresh_cap Try.lays165 Try.Builder_Extra_165 B b n w hB hbk hBw hn
def Try.lays129_ren : Go.Shelf.Ren := ⟨fun | 129 => 80 | n => n, fun | 53 => 72 | 3 => 3 | 4 => 4 | 46 => 87 | 5 => 5 | 9 => 9 | n => n, fun | n => n⟩
theorem Try.lays129 : Go.Proofs.Lays.n129 Try.prog Try.lays129_ren := {
  mixed := by kernel_rfl
  f129 := Try.func80.trans (congrArg some (by kernel_rfl))
  t3 := Try.underlying3
  a3 := Try.isAgg3
  z3 := Try.sizeOf3
  v3 := Try.zeroValue3
  t4 := Try.underlying4
  a4 := Try.isAgg4
  z4 := Try.sizeOf4
  v4 := Try.zeroValue4
  t5 := Try.underlying5
  a5 := Try.isAgg5
  z5 := Try.sizeOf5
  v5 := Try.zeroValue5
  t9 := Try.underlying9
  a9 := Try.isAgg9
  z9 := Try.sizeOf9
  v9 := Try.zeroValue9
  t46 := Try.underlying87
  a46 := Try.isAgg87
  z46 := Try.sizeOf87
  v46 := Try.zeroValue87
  t53 := Try.underlying72
  a53 := Try.isAgg72
  z53 := Try.sizeOf72
  v53 := Try.zeroValue72 }
/-- bits.Len64: "Len64 returns the minimum number of bits required to represent x; the result is 0 for x == 0.": IT RETURNS 'Lib.bitLen x'; the world is as it was. ('h0', 'h1': x is a uint64.) (LAID: no walk: one application.) -/
theorem Try.bits_Len64 (x : Int) (w : World) (h0 : 0 ≤ x) (h1 : x ≤ 18446744073709551615) :
    Calls Try.prog 80 #[.int .u64 x] w fun e w' => e = .returned (.int .i64 (Lib.bitLen x.toNat)) ∧ w' = w := Any.bits_Len64 Try.lays129 x w h0 h1
def Try.lays217_ren : Go.Shelf.Ren := ⟨fun | 217 => 86 | 266 => 90 | n => n, fun | 9 => 9 | 5 => 5 | 3 => 3 | n => n, fun | n => n⟩
theorem Try.lays217 : Go.Proofs.Lays.n217 Try.prog Try.lays217_ren := {
  mixed := by kernel_rfl
  f217 := Try.func86.trans (congrArg some (by kernel_rfl))
  f266 := Try.func90.trans (congrArg some (by kernel_rfl))
  t3 := Try.underlying3
  a3 := Try.isAgg3
  z3 := Try.sizeOf3
  v3 := Try.zeroValue3
  t5 := Try.underlying5
  a5 := Try.isAgg5
  z5 := Try.sizeOf5
  v5 := Try.zeroValue5
  t9 := Try.underlying9
  a9 := Try.isAgg9
  z9 := Try.sizeOf9
  v9 := Try.zeroValue9 }
open Go.RowKit Go.Lib in
/-- internal/stringslite.IndexByte (what strings.IndexByte calls): IT RETURNS 'Lib.indexByte s c'; the world is as it was. (LAID: no walk: one application.) -/
theorem Try.stringslite_IndexByte (s : ByteArray) (c : Int) (w : World) :
    Calls Try.prog 86 #[.string s, .int .u8 c] w fun e w' => e = .returned (.int .i64 (Lib.indexByte s.data.toList c.toNat.toUInt8)) ∧ w' = w := Any.stringslite_IndexByte Try.lays217 s c w
def Try.lays224_ren : Go.Shelf.Ren := ⟨fun | 224 => 88 | n => n, fun | 3 => 3 | n => n, fun | n => n⟩
theorem Try.lays224 : Go.Proofs.Lays.n224 Try.prog Try.lays224_ren := {
  mixed := by kernel_rfl
  f224 := Try.func88.trans (congrArg some (by kernel_rfl))
  t3 := Try.underlying3
  a3 := Try.isAgg3
  z3 := Try.sizeOf3
  v3 := Try.zeroValue3 }
open Go.RowKit Go.Lib in
/-- internal/bytealg.Cutover: "Cutover reports the number of failures of IndexByte we should tolerate before switching over to Index. n is the number of bytes processed so far.": on amd64: (n + 16) / 8. (LAID: no walk: one application.) -/
theorem Try.bytealg_Cutover (n : Int) (h0 : 0 ≤ n) (h1 : n < 4611686018427387904) (w : World) :
    Calls Try.prog 88 #[.int .i64 n] w fun e w' => e = .returned (.int .i64 ((n + 16) / 8)) ∧ w' = w := Any.bytealg_Cutover Try.lays224 n h0 h1 w
def Try.lays314_ren : Go.Shelf.Ren := ⟨fun | 314 => 91 | n => n, fun | 9 => 9 | 51 => 110 | 3 => 3 | 4 => 4 | 5 => 5 | 46 => 87 | n => n, fun | n => n⟩
theorem Try.lays314 : Go.Proofs.Lays.n314 Try.prog Try.lays314_ren := {
  mixed := by kernel_rfl
  f314 := Try.func91.trans (congrArg some (by kernel_rfl))
  t3 := Try.underlying3
  a3 := Try.isAgg3
  z3 := Try.sizeOf3
  v3 := Try.zeroValue3
  t4 := Try.underlying4
  a4 := Try.isAgg4
  z4 := Try.sizeOf4
  v4 := Try.zeroValue4
  t5 := Try.underlying5
  a5 := Try.isAgg5
  z5 := Try.sizeOf5
  v5 := Try.zeroValue5
  t9 := Try.underlying9
  a9 := Try.isAgg9
  z9 := Try.sizeOf9
  v9 := Try.zeroValue9
  t46 := Try.underlying87
  a46 := Try.isAgg87
  z46 := Try.sizeOf87
  v46 := Try.zeroValue87
  t51 := Try.underlying110
  a51 := Try.isAgg110
  z51 := Try.sizeOf110
  v51 := Try.zeroValue110 }
open Go.RowKit Go.Lib in
/-- hashStr: "returns the hash and the appropriate multiplicative factor for use in Rabin-Karp algorithm": THE HASH OF ALL OF sep, AND 16777619 ^ len(sep), both in uint32. (LAID: no walk: one application.) -/
theorem Try.bytealg_hashStr (sep : ByteArray) (hs : sep.size < 4294967281) (w : World) :
    Calls Try.prog 91 #[.string sep] w fun e w' => e = .returned (.tuple #[.int .u32 (RK.H sep.data.toList % 4294967296), .int .u32 (16777619 ^ sep.size % 4294967296)]) ∧ w' = w := Any.bytealg_hashStr Try.lays314 sep hs w
def Try.lays267_ren : Go.Shelf.Ren := ⟨fun | 267 => 89 | 314 => 91 | n => n, fun | 9 => 9 | 3 => 3 | 146 => 111 | 51 => 110 | 4 => 4 | 5 => 5 | 46 => 87 | n => n, fun | n => n⟩
theorem Try.lays267 : Go.Proofs.Lays.n267 Try.prog Try.lays267_ren := {
  mixed := by kernel_rfl
  f267 := Try.func89.trans (congrArg some (by kernel_rfl))
  f314 := Try.func91.trans (congrArg some (by kernel_rfl))
  t3 := Try.underlying3
  a3 := Try.isAgg3
  z3 := Try.sizeOf3
  v3 := Try.zeroValue3
  t4 := Try.underlying4
  a4 := Try.isAgg4
  z4 := Try.sizeOf4
  v4 := Try.zeroValue4
  t5 := Try.underlying5
  a5 := Try.isAgg5
  z5 := Try.sizeOf5
  v5 := Try.zeroValue5
  t9 := Try.underlying9
  a9 := Try.isAgg9
  z9 := Try.sizeOf9
  v9 := Try.zeroValue9
  t46 := Try.underlying87
  a46 := Try.isAgg87
  z46 := Try.sizeOf87
  v46 := Try.zeroValue87
  t51 := Try.underlying110
  a51 := Try.isAgg110
  z51 := Try.sizeOf110
  v51 := Try.zeroValue110
  t146 := Try.underlying111
  a146 := Try.isAgg111
  z146 := Try.sizeOf111
  v146 := Try.zeroValue111 }
open Go.RowKit Go.Lib in
theorem Try.bytealg_IndexRabinKarp (s sep : ByteArray) (h1 : 1 ≤ sep.size) (h2 : sep.size ≤ s.size) (hs : s.size < 4294967281) (w : World) :
    Calls Try.prog 89 #[.string s, .string sep] w fun e w' => e = .returned (.int .i64 (Lib.index s.data.toList sep.data.toList)) ∧ w' = w := Any.bytealg_IndexRabinKarp Try.lays267 s sep h1 h2 hs w
def Try.lays219_ren : Go.Shelf.Ren := ⟨fun | 219 => 85 | 217 => 86 | 225 => 87 | 224 => 88 | 267 => 89 | 266 => 90 | 314 => 91 | n => n, fun | 9 => 9 | 3 => 3 | 4 => 4 | 5 => 5 | 46 => 87 | 146 => 111 | 51 => 110 | n => n, fun | 1 => 0 | n => n⟩
theorem Try.lays219 : Go.Proofs.Lays.n219 Try.prog Try.lays219_ren := {
  mixed := by kernel_rfl
  f217 := Try.func86.trans (congrArg some (by kernel_rfl))
  f219 := Try.func85.trans (congrArg some (by kernel_rfl))
  f224 := Try.func88.trans (congrArg some (by kernel_rfl))
  f225 := Try.func87.trans (congrArg some (by kernel_rfl))
  f266 := Try.func90.trans (congrArg some (by kernel_rfl))
  f267 := Try.func89.trans (congrArg some (by kernel_rfl))
  f314 := Try.func91.trans (congrArg some (by kernel_rfl))
  t3 := Try.underlying3
  a3 := Try.isAgg3
  z3 := Try.sizeOf3
  v3 := Try.zeroValue3
  t4 := Try.underlying4
  a4 := Try.isAgg4
  z4 := Try.sizeOf4
  v4 := Try.zeroValue4
  t5 := Try.underlying5
  a5 := Try.isAgg5
  z5 := Try.sizeOf5
  v5 := Try.zeroValue5
  t9 := Try.underlying9
  a9 := Try.isAgg9
  z9 := Try.sizeOf9
  v9 := Try.zeroValue9
  t46 := Try.underlying87
  a46 := Try.isAgg87
  z46 := Try.sizeOf87
  v46 := Try.zeroValue87
  t51 := Try.underlying110
  a51 := Try.isAgg110
  z51 := Try.sizeOf110
  v51 := Try.zeroValue110
  t146 := Try.underlying111
  a146 := Try.isAgg111
  z146 := Try.sizeOf111
  v146 := Try.zeroValue111
  g1 := by kernel_rfl }
open Go.RowKit Go.Lib in
/-- internal/stringslite.Index (what strings.Index calls) AT A substr OF ONE BYTE c: IT RETURNS 'Lib.indexByte s c'; the world is as it was. (LAID: no walk: one application.) -/
theorem Try.stringslite_Index_one (s : ByteArray) (c : UInt8) (w : World) :
    Calls Try.prog 85 #[.string s, .string ⟨#[c]⟩] w fun e w' => e = .returned (.int .i64 (Lib.indexByte s.data.toList c)) ∧ w' = w := Any.stringslite_Index_one Try.lays219 s c w
open Go.RowKit Go.Lib in
/-- internal/stringslite.Index (what strings.Index calls) AT A substr OF WHATEVER LENGTH: IT RETURNS 'Lib.index s substr'; the world is as it was. 'm': what internal/bytealg.MaxLen holds: whatever. (LAID: no walk: one application.) -/
theorem Try.stringslite_Index (s sub : ByteArray) (m : Int) (w : World) (hs : s.size < 4294967281) (hm : w.cell? ⟨0, 0, none⟩ = some (.int .i64 m)) :
    Calls Try.prog 85 #[.string s, .string sub] w fun e w' => e = .returned (.int .i64 (Lib.index s.data.toList sub.data.toList)) ∧ w' = w := Any.stringslite_Index Try.lays219 s sub m w hs hm
def Try.lays220_ren : Go.Shelf.Ren := ⟨fun | 220 => 81 | 219 => 85 | 217 => 86 | 225 => 87 | 224 => 88 | 267 => 89 | 266 => 90 | 314 => 91 | n => n, fun | 9 => 9 | 4 => 4 | 3 => 3 | 5 => 5 | 46 => 87 | 146 => 111 | 51 => 110 | n => n, fun | 1 => 0 | n => n⟩
theorem Try.lays220 : Go.Proofs.Lays.n220 Try.prog Try.lays220_ren := {
  mixed := by kernel_rfl
  f217 := Try.func86.trans (congrArg some (by kernel_rfl))
  f219 := Try.func85.trans (congrArg some (by kernel_rfl))
  f220 := Try.func81.trans (congrArg some (by kernel_rfl))
  f224 := Try.func88.trans (congrArg some (by kernel_rfl))
  f225 := Try.func87.trans (congrArg some (by kernel_rfl))
  f266 := Try.func90.trans (congrArg some (by kernel_rfl))
  f267 := Try.func89.trans (congrArg some (by kernel_rfl))
  f314 := Try.func91.trans (congrArg some (by kernel_rfl))
  t3 := Try.underlying3
  a3 := Try.isAgg3
  z3 := Try.sizeOf3
  v3 := Try.zeroValue3
  t4 := Try.underlying4
  a4 := Try.isAgg4
  z4 := Try.sizeOf4
  v4 := Try.zeroValue4
  t5 := Try.underlying5
  a5 := Try.isAgg5
  z5 := Try.sizeOf5
  v5 := Try.zeroValue5
  t9 := Try.underlying9
  a9 := Try.isAgg9
  z9 := Try.sizeOf9
  v9 := Try.zeroValue9
  t46 := Try.underlying87
  a46 := Try.isAgg87
  z46 := Try.sizeOf87
  v46 := Try.zeroValue87
  t51 := Try.underlying110
  a51 := Try.isAgg110
  z51 := Try.sizeOf110
  v51 := Try.zeroValue110
  t146 := Try.underlying111
  a146 := Try.isAgg111
  z146 := Try.sizeOf111
  v146 := Try.zeroValue111
  g1 := by kernel_rfl }
open Go.RowKit Go.Lib in
/-- internal/stringslite.Cut (what strings.Cut calls): IT RETURNS 'Lib.cut s sep'; the world is as it was but for the count of draws. (LAID: no walk: one application.) -/
theorem Try.stringslite_Cut (s sep : ByteArray) (m : Int) (w : World) (hs : s.size < 4294967281) (hm : w.cell? ⟨0, 0, none⟩ = some (.int .i64 m)) :
    Calls Try.prog 81 #[.string s, .string sep] w fun e w' => e = .returned (.tuple #[.string ⟨(Lib.cut s.data.toList sep.data.toList).1.toArray⟩, .string ⟨(Lib.cut s.data.toList sep.data.toList).2.1.toArray⟩, .bool (Lib.cut s.data.toList sep.data.toList).2.2]) ∧ ∃ n, w' = w.drewN n := Any.stringslite_Cut Try.lays220 s sep m w hs hm
def Try.lays145_ren : Go.Shelf.Ren := ⟨fun | 145 => 69 | 220 => 81 | 219 => 85 | 217 => 86 | 225 => 87 | 224 => 88 | 267 => 89 | 266 => 90 | 314 => 91 | n => n, fun | 9 => 9 | 4 => 4 | 59 => 84 | 3 => 3 | 5 => 5 | 46 => 87 | 146 => 111 | 51 => 110 | n => n, fun | 1 => 0 | n => n⟩
theorem Try.lays145 : Go.Proofs.Lays.n145 Try.prog Try.lays145_ren := {
  mixed := by kernel_rfl
  f145 := Try.func69.trans (congrArg some (by kernel_rfl))
  f217 := Try.func86.trans (congrArg some (by kernel_rfl))
  f219 := Try.func85.trans (congrArg some (by kernel_rfl))
  f220 := Try.func81.trans (congrArg some (by kernel_rfl))
  f224 := Try.func88.trans (congrArg some (by kernel_rfl))
  f225 := Try.func87.trans (congrArg some (by kernel_rfl))
  f266 := Try.func90.trans (congrArg some (by kernel_rfl))
  f267 := Try.func89.trans (congrArg some (by kernel_rfl))
  f314 := Try.func91.trans (congrArg some (by kernel_rfl))
  t3 := Try.underlying3
  a3 := Try.isAgg3
  z3 := Try.sizeOf3
  v3 := Try.zeroValue3
  t4 := Try.underlying4
  a4 := Try.isAgg4
  z4 := Try.sizeOf4
  v4 := Try.zeroValue4
  t5 := Try.underlying5
  a5 := Try.isAgg5
  z5 := Try.sizeOf5
  v5 := Try.zeroValue5
  t9 := Try.underlying9
  a9 := Try.isAgg9
  z9 := Try.sizeOf9
  v9 := Try.zeroValue9
  t46 := Try.underlying87
  a46 := Try.isAgg87
  z46 := Try.sizeOf87
  v46 := Try.zeroValue87
  t51 := Try.underlying110
  a51 := Try.isAgg110
  z51 := Try.sizeOf110
  v51 := Try.zeroValue110
  t59 := Try.underlying84
  a59 := Try.isAgg84
  z59 := Try.sizeOf84
  v59 := Try.zeroValue84
  t146 := Try.underlying111
  a146 := Try.isAgg111
  z146 := Try.sizeOf111
  v146 := Try.zeroValue111
  g1 := by kernel_rfl }
open Go.RowKit Go.Lib in
/-- strings.Cut: "Cut slices s around the first instance of sep, returning the text before and after sep. The found result reports whether sep appears in s. If sep does not appear in s, cut returns s, "", false.": IT RETURNS 'Lib.cut s sep'; the world is as it was but for the count of draws. (LAID: no walk: one application.) -/
theorem Try.strings_Cut (s sep : ByteArray) (m : Int) (w : World) (hs : s.size < 4294967281) (hm : w.cell? ⟨0, 0, none⟩ = some (.int .i64 m)) :
    Calls Try.prog 69 #[.string s, .string sep] w fun e w' => e = .returned (.tuple #[.string ⟨(Lib.cut s.data.toList sep.data.toList).1.toArray⟩, .string ⟨(Lib.cut s.data.toList sep.data.toList).2.1.toArray⟩, .bool (Lib.cut s.data.toList sep.data.toList).2.2]) ∧ ∃ n, w' = w.drewN n := Any.strings_Cut Try.lays145 s sep m w hs hm
def Try.laysM219_ren : Go.Shelf.Ren := ⟨fun | 219 => 85 | 217 => 86 | 225 => 87 | 224 => 88 | 267 => 89 | 266 => 90 | 314 => 91 | n => n, fun | 9 => 9 | 3 => 3 | 4 => 4 | 5 => 5 | 46 => 87 | 146 => 111 | 51 => 110 | n => n, fun | 1 => 0 | n => n⟩
theorem Try.laysM219 : Go.Proofs.LaysM.n219 Try.prog Try.laysM219_ren := {
  mixed := by kernel_rfl
  f217 := Try.func86.trans (congrArg some (by kernel_rfl))
  f219 := Try.func85.trans (congrArg some (by kernel_rfl))
  f224 := Try.func88.trans (congrArg some (by kernel_rfl))
  f225 := Try.func87.trans (congrArg some (by kernel_rfl))
  f266 := Try.func90.trans (congrArg some (by kernel_rfl))
  f267 := Try.func89.trans (congrArg some (by kernel_rfl))
  f314 := Try.func91.trans (congrArg some (by kernel_rfl))
  t3 := Try.underlying3
  a3 := Try.isAgg3
  z3 := Try.sizeOf3
  v3 := Try.zeroValue3
  t4 := Try.underlying4
  a4 := Try.isAgg4
  z4 := Try.sizeOf4
  v4 := Try.zeroValue4
  t5 := Try.underlying5
  a5 := Try.isAgg5
  z5 := Try.sizeOf5
  v5 := Try.zeroValue5
  t9 := Try.underlying9
  a9 := Try.isAgg9
  z9 := Try.sizeOf9
  v9 := Try.zeroValue9
  t46 := Try.underlying87
  a46 := Try.isAgg87
  z46 := Try.sizeOf87
  v46 := Try.zeroValue87
  t51 := Try.underlying110
  a51 := Try.isAgg110
  z51 := Try.sizeOf110
  v51 := Try.zeroValue110
  t146 := Try.underlying111
  a146 := Try.isAgg111
  z146 := Try.sizeOf111
  v146 := Try.zeroValue111
  g1 := by kernel_rfl
  i3 := by kernel_rfl
  i4 := by kernel_rfl
  i5 := by kernel_rfl
  i9 := by kernel_rfl
  i46 := by kernel_rfl
  i51 := by kernel_rfl
  i146 := by kernel_rfl
  m1 := by kernel_rfl
  s1_3 := fun w h => Go.Proofs.cell_of_shapedOpen_int (zero := #[.int .i64 0]) (t := 3) h (of_decide_eq_true (by kernel_rfl)) (by kernel_rfl) rfl (by kernel_rfl) (by kernel_rfl) Try.underlying3 }
open Go.RowKit Go.Lib in
theorem Try.stringslite_Index_shaped (s sub : ByteArray) (w : World) (h : w.ShapedOpen Try.prog) (hs : s.size < 4294967281) :
    Calls Try.prog 85 #[.string s, .string sub] w fun e w' => e = .returned (.int .i64 (Lib.index s.data.toList sub.data.toList)) ∧ w' = w := Any.stringslite_Index_shaped Try.laysM219 s sub w h hs
def Try.laysM220_ren : Go.Shelf.Ren := ⟨fun | 220 => 81 | 219 => 85 | 217 => 86 | 225 => 87 | 224 => 88 | 267 => 89 | 266 => 90 | 314 => 91 | n => n, fun | 9 => 9 | 4 => 4 | 3 => 3 | 5 => 5 | 46 => 87 | 146 => 111 | 51 => 110 | n => n, fun | 1 => 0 | n => n⟩
theorem Try.laysM220 : Go.Proofs.LaysM.n220 Try.prog Try.laysM220_ren := {
  mixed := by kernel_rfl
  f217 := Try.func86.trans (congrArg some (by kernel_rfl))
  f219 := Try.func85.trans (congrArg some (by kernel_rfl))
  f220 := Try.func81.trans (congrArg some (by kernel_rfl))
  f224 := Try.func88.trans (congrArg some (by kernel_rfl))
  f225 := Try.func87.trans (congrArg some (by kernel_rfl))
  f266 := Try.func90.trans (congrArg some (by kernel_rfl))
  f267 := Try.func89.trans (congrArg some (by kernel_rfl))
  f314 := Try.func91.trans (congrArg some (by kernel_rfl))
  t3 := Try.underlying3
  a3 := Try.isAgg3
  z3 := Try.sizeOf3
  v3 := Try.zeroValue3
  t4 := Try.underlying4
  a4 := Try.isAgg4
  z4 := Try.sizeOf4
  v4 := Try.zeroValue4
  t5 := Try.underlying5
  a5 := Try.isAgg5
  z5 := Try.sizeOf5
  v5 := Try.zeroValue5
  t9 := Try.underlying9
  a9 := Try.isAgg9
  z9 := Try.sizeOf9
  v9 := Try.zeroValue9
  t46 := Try.underlying87
  a46 := Try.isAgg87
  z46 := Try.sizeOf87
  v46 := Try.zeroValue87
  t51 := Try.underlying110
  a51 := Try.isAgg110
  z51 := Try.sizeOf110
  v51 := Try.zeroValue110
  t146 := Try.underlying111
  a146 := Try.isAgg111
  z146 := Try.sizeOf111
  v146 := Try.zeroValue111
  g1 := by kernel_rfl
  i3 := by kernel_rfl
  i4 := by kernel_rfl
  i5 := by kernel_rfl
  i9 := by kernel_rfl
  i46 := by kernel_rfl
  i51 := by kernel_rfl
  i146 := by kernel_rfl
  m1 := by kernel_rfl
  s1_3 := fun w h => Go.Proofs.cell_of_shapedOpen_int (zero := #[.int .i64 0]) (t := 3) h (of_decide_eq_true (by kernel_rfl)) (by kernel_rfl) rfl (by kernel_rfl) (by kernel_rfl) Try.underlying3 }
open Go.RowKit Go.Lib in
theorem Try.stringslite_Cut_shaped (s sep : ByteArray) (w : World) (h : w.ShapedOpen Try.prog) (hs : s.size < 4294967281) :
    Calls Try.prog 81 #[.string s, .string sep] w fun e w' => e = .returned (.tuple #[.string ⟨(Lib.cut s.data.toList sep.data.toList).1.toArray⟩, .string ⟨(Lib.cut s.data.toList sep.data.toList).2.1.toArray⟩, .bool (Lib.cut s.data.toList sep.data.toList).2.2]) ∧ ∃ n, w' = w.drewN n := Any.stringslite_Cut_shaped Try.laysM220 s sep w h hs
def Try.laysM145_ren : Go.Shelf.Ren := ⟨fun | 145 => 69 | 220 => 81 | 219 => 85 | 217 => 86 | 225 => 87 | 224 => 88 | 267 => 89 | 266 => 90 | 314 => 91 | n => n, fun | 9 => 9 | 4 => 4 | 59 => 84 | 3 => 3 | 5 => 5 | 46 => 87 | 146 => 111 | 51 => 110 | n => n, fun | 1 => 0 | n => n⟩
theorem Try.laysM145 : Go.Proofs.LaysM.n145 Try.prog Try.laysM145_ren := {
  mixed := by kernel_rfl
  f145 := Try.func69.trans (congrArg some (by kernel_rfl))
  f217 := Try.func86.trans (congrArg some (by kernel_rfl))
  f219 := Try.func85.trans (congrArg some (by kernel_rfl))
  f220 := Try.func81.trans (congrArg some (by kernel_rfl))
  f224 := Try.func88.trans (congrArg some (by kernel_rfl))
  f225 := Try.func87.trans (congrArg some (by kernel_rfl))
  f266 := Try.func90.trans (congrArg some (by kernel_rfl))
  f267 := Try.func89.trans (congrArg some (by kernel_rfl))
  f314 := Try.func91.trans (congrArg some (by kernel_rfl))
  t3 := Try.underlying3
  a3 := Try.isAgg3
  z3 := Try.sizeOf3
  v3 := Try.zeroValue3
  t4 := Try.underlying4
  a4 := Try.isAgg4
  z4 := Try.sizeOf4
  v4 := Try.zeroValue4
  t5 := Try.underlying5
  a5 := Try.isAgg5
  z5 := Try.sizeOf5
  v5 := Try.zeroValue5
  t9 := Try.underlying9
  a9 := Try.isAgg9
  z9 := Try.sizeOf9
  v9 := Try.zeroValue9
  t46 := Try.underlying87
  a46 := Try.isAgg87
  z46 := Try.sizeOf87
  v46 := Try.zeroValue87
  t51 := Try.underlying110
  a51 := Try.isAgg110
  z51 := Try.sizeOf110
  v51 := Try.zeroValue110
  t59 := Try.underlying84
  a59 := Try.isAgg84
  z59 := Try.sizeOf84
  v59 := Try.zeroValue84
  t146 := Try.underlying111
  a146 := Try.isAgg111
  z146 := Try.sizeOf111
  v146 := Try.zeroValue111
  g1 := by kernel_rfl
  i3 := by kernel_rfl
  i4 := by kernel_rfl
  i5 := by kernel_rfl
  i9 := by kernel_rfl
  i46 := by kernel_rfl
  i51 := by kernel_rfl
  i59 := by kernel_rfl
  i146 := by kernel_rfl
  m1 := by kernel_rfl
  s1_3 := fun w h => Go.Proofs.cell_of_shapedOpen_int (zero := #[.int .i64 0]) (t := 3) h (of_decide_eq_true (by kernel_rfl)) (by kernel_rfl) rfl (by kernel_rfl) (by kernel_rfl) Try.underlying3 }
open Go.RowKit Go.Lib in
theorem Try.strings_Cut_shaped (s sep : ByteArray) (w : World) (h : w.ShapedOpen Try.prog) (hs : s.size < 4294967281) :
    Calls Try.prog 69 #[.string s, .string sep] w fun e w' => e = .returned (.tuple #[.string ⟨(Lib.cut s.data.toList sep.data.toList).1.toArray⟩, .string ⟨(Lib.cut s.data.toList sep.data.toList).2.1.toArray⟩, .bool (Lib.cut s.data.toList sep.data.toList).2.2]) ∧ ∃ n, w' = w.drewN n := Any.strings_Cut_shaped Try.laysM145 s sep w h hs
def Try.lays206_ren : Go.Shelf.Ren := ⟨fun | 206 => 74 | n => n, fun | 9 => 9 | 4 => 4 | 3 => 3 | n => n, fun | n => n⟩
theorem Try.lays206 : Go.Proofs.Lays.n206 Try.prog Try.lays206_ren := {
  mixed := by kernel_rfl
  f206 := Try.func74.trans (congrArg some (by kernel_rfl))
  t3 := Try.underlying3
  a3 := Try.isAgg3
  z3 := Try.sizeOf3
  v3 := Try.zeroValue3
  t4 := Try.underlying4
  a4 := Try.isAgg4
  z4 := Try.sizeOf4
  v4 := Try.zeroValue4
  t9 := Try.underlying9
  a9 := Try.isAgg9
  z9 := Try.sizeOf9
  v9 := Try.zeroValue9 }
open Go.RowKit Go.Lib in
/-- internal/stringslite.HasPrefix (what strings.HasPrefix calls). (LAID: no walk: one application.) -/
theorem Try.stringslite_HasPrefix (s p : ByteArray) (w : World) :
    Calls Try.prog 74 #[.string s, .string p] w fun e w' => e = .returned (.bool (Lib.hasPrefix s.data.toList p.data.toList)) ∧ w' = w := Any.stringslite_HasPrefix Try.lays206 s p w
def Try.lays99_ren : Go.Shelf.Ren := ⟨fun | 99 => 55 | 206 => 74 | n => n, fun | 9 => 9 | 4 => 4 | 3 => 3 | n => n, fun | n => n⟩
theorem Try.lays99 : Go.Proofs.Lays.n99 Try.prog Try.lays99_ren := {
  mixed := by kernel_rfl
  f99 := Try.func55.trans (congrArg some (by kernel_rfl))
  f206 := Try.func74.trans (congrArg some (by kernel_rfl))
  t3 := Try.underlying3
  a3 := Try.isAgg3
  z3 := Try.sizeOf3
  v3 := Try.zeroValue3
  t4 := Try.underlying4
  a4 := Try.isAgg4
  z4 := Try.sizeOf4
  v4 := Try.zeroValue4
  t9 := Try.underlying9
  a9 := Try.isAgg9
  z9 := Try.sizeOf9
  v9 := Try.zeroValue9 }
open Go.RowKit Go.Lib in
/-- strings.HasPrefix: "HasPrefix reports whether the string s begins with prefix.": IT RETURNS 'Lib.hasPrefix s prefix'; the world is as it was. (LAID: no walk: one application.) -/
theorem Try.strings_HasPrefix (s p : ByteArray) (w : World) :
    Calls Try.prog 55 #[.string s, .string p] w fun e w' => e = .returned (.bool (Lib.hasPrefix s.data.toList p.data.toList)) ∧ w' = w := Any.strings_HasPrefix Try.lays99 s p w
def Try.lays264_ren : Go.Shelf.Ren := ⟨fun | 264 => 73 | n => n, fun | 53 => 72 | 46 => 87 | n => n, fun | n => n⟩
theorem Try.lays264 : Go.Proofs.Lays.n264 Try.prog Try.lays264_ren := {
  mixed := by kernel_rfl
  f264 := Try.func73.trans (congrArg some (by kernel_rfl))
  t46 := Try.underlying87
  a46 := Try.isAgg87
  z46 := Try.sizeOf87
  v46 := Try.zeroValue87
  t53 := Try.underlying72
  a53 := Try.isAgg72
  z53 := Try.sizeOf72
  v53 := Try.zeroValue72 }
open Go.RowKit Go.Lib in
theorem Try.bits_Mul64 (x y : Nat) (hx : x < 18446744073709551616) (hy : y < 18446744073709551616) (w : World) :
    Calls Try.prog 73 #[.int .u64 x, .int .u64 y] w fun e w' => e = .returned (.tuple #[.int .u64 ((x * y / 18446744073709551616 : Nat) : Int), .int .u64 ((x * y % 18446744073709551616 : Nat) : Int)]) ∧ w' = w := Any.bits_Mul64 Try.lays264 x y hx hy w
def Try.lays212_ren : Go.Shelf.Ren := ⟨fun | 212 => 54 | 263 => 72 | 264 => 73 | n => n, fun | 46 => 87 | 51 => 110 | 146 => 111 | 53 => 72 | 148 => 113 | n => n, fun | n => n⟩
theorem Try.lays212 : Go.Proofs.Lays.n212 Try.prog Try.lays212_ren := {
  mixed := by kernel_rfl
  f212 := Try.func54.trans (congrArg some (by kernel_rfl))
  f263 := Try.func72.trans (congrArg some (by kernel_rfl))
  f264 := Try.func73.trans (congrArg some (by kernel_rfl))
  t46 := Try.underlying87
  a46 := Try.isAgg87
  z46 := Try.sizeOf87
  v46 := Try.zeroValue87
  t51 := Try.underlying110
  a51 := Try.isAgg110
  z51 := Try.sizeOf110
  v51 := Try.zeroValue110
  t53 := Try.underlying72
  a53 := Try.isAgg72
  z53 := Try.sizeOf72
  v53 := Try.zeroValue72
  t146 := Try.underlying111
  a146 := Try.isAgg111
  z146 := Try.sizeOf111
  v146 := Try.zeroValue111
  t148 := Try.underlying113
  a148 := Try.isAgg113
  z148 := Try.sizeOf113
  v148 := Try.zeroValue113 }
open Go.RowKit Go.Lib in
/-- math/bits.Mul: "Mul returns the full-width product of x and y": on a machine of 64 bits: Mul64's. (LAID: no walk: one application.) -/
theorem Try.bits_Mul (x y : Nat) (hx : x < 18446744073709551616) (hy : y < 18446744073709551616) (w : World) :
    Calls Try.prog 54 #[.int .u64 x, .int .u64 y] w fun e w' => e = .returned (.tuple #[.int .u64 ((x * y / 18446744073709551616 : Nat) : Int), .int .u64 ((x * y % 18446744073709551616 : Nat) : Int)]) ∧ w' = w := Any.bits_Mul Try.lays212 x y hx hy w
def Try.lays105_ren : Go.Shelf.Ren := ⟨fun | 105 => 26 | 212 => 54 | 99 => 55 | 165 => 56 | 166 => 57 | 170 => 58 | 169 => 59 | 263 => 72 | 264 => 73 | 206 => 74 | 240 => 75 | 241 => 76 | 276 => 83 | 277 => 84 | n => n, fun | 9 => 9 | 3 => 3 | 4 => 4 | 20 => 20 | 0 => 0 | 46 => 87 | 109 => 88 | 5 => 5 | 72 => 93 | 76 => 97 | 51 => 110 | 146 => 111 | 53 => 72 | 148 => 113 | 70 => 91 | 37 => 76 | 75 => 96 | 127 => 115 | 164 => 119 | 80 => 82 | n => n, fun | n => n⟩
theorem Try.lays105 : Go.Proofs.Lays.n105 Try.prog Try.lays105_ren := {
  mixed := by kernel_rfl
  f99 := Try.func55.trans (congrArg some (by kernel_rfl))
  f105 := Try.func26.trans (congrArg some (by kernel_rfl))
  f165 := Try.func56.trans (congrArg some (by kernel_rfl))
  f166 := Try.func57.trans (congrArg some (by kernel_rfl))
  f169 := Try.func59.trans (congrArg some (by kernel_rfl))
  f170 := Try.func58.trans (congrArg some (by kernel_rfl))
  f206 := Try.func74.trans (congrArg some (by kernel_rfl))
  f212 := Try.func54.trans (congrArg some (by kernel_rfl))
  f240 := Try.func75.trans (congrArg some (by kernel_rfl))
  f241 := Try.func76.trans (congrArg some (by kernel_rfl))
  f263 := Try.func72.trans (congrArg some (by kernel_rfl))
  f264 := Try.func73.trans (congrArg some (by kernel_rfl))
  f276 := Try.func83.trans (congrArg some (by kernel_rfl))
  f277 := Try.func84.trans (congrArg some (by kernel_rfl))
  t0 := Try.underlying0
  a0 := Try.isAgg0
  z0 := Try.sizeOf0
  v0 := Try.zeroValue0
  t3 := Try.underlying3
  a3 := Try.isAgg3
  z3 := Try.sizeOf3
  v3 := Try.zeroValue3
  t4 := Try.underlying4
  a4 := Try.isAgg4
  z4 := Try.sizeOf4
  v4 := Try.zeroValue4
  t5 := Try.underlying5
  a5 := Try.isAgg5
  z5 := Try.sizeOf5
  v5 := Try.zeroValue5
  t9 := Try.underlying9
  a9 := Try.isAgg9
  z9 := Try.sizeOf9
  v9 := Try.zeroValue9
  t20 := Try.underlying20
  a20 := Try.isAgg20
  z20 := Try.sizeOf20
  v20 := Try.zeroValue20
  t37 := Try.underlying76
  a37 := Try.isAgg76
  z37 := Try.sizeOf76
  v37 := Try.zeroValue76
  t46 := Try.underlying87
  a46 := Try.isAgg87
  z46 := Try.sizeOf87
  v46 := Try.zeroValue87
  t51 := Try.underlying110
  a51 := Try.isAgg110
  z51 := Try.sizeOf110
  v51 := Try.zeroValue110
  t53 := Try.underlying72
  a53 := Try.isAgg72
  z53 := Try.sizeOf72
  v53 := Try.zeroValue72
  t70 := Try.underlying91
  a70 := Try.isAgg91
  z70 := Try.sizeOf91
  v70 := Try.zeroValue91
  t72 := Try.underlying93
  a72 := Try.isAgg93
  z72 := Try.sizeOf93
  v72 := Try.zeroValue93
  t75 := Try.underlying96
  a75 := Try.isAgg96
  z75 := Try.sizeOf96
  v75 := Try.zeroValue96
  t76 := Try.underlying97
  a76 := Try.isAgg97
  z76 := Try.sizeOf97
  v76 := Try.zeroValue97
  t109 := Try.underlying88
  a109 := Try.isAgg88
  z109 := Try.sizeOf88
  v109 := Try.zeroValue88
  t127 := Try.underlying115
  a127 := Try.isAgg115
  z127 := Try.sizeOf115
  v127 := Try.zeroValue115
  t146 := Try.underlying111
  a146 := Try.isAgg111
  z146 := Try.sizeOf111
  v146 := Try.zeroValue111
  t148 := Try.underlying113
  a148 := Try.isAgg113
  z148 := Try.sizeOf113
  v148 := Try.zeroValue113
  t164 := Try.underlying119
  a164 := Try.isAgg119
  z164 := Try.sizeOf119
  v164 := Try.zeroValue119 }
theorem Try.Builder_Extra_105 : Builder.Extra Try.prog Try.lays105_ren := {
  sizeBuilder := by kernel_rfl
  liesBuilder := by kernel_rfl
  t5 := Try.underlying5
  a5 := Try.isAgg5
  z5 := Try.sizeOf5
  v5 := Try.zeroValue5
  infoByte := by kernel_rfl
  cellsByte := by kernel_rfl
  sizeByte := by kernel_rfl
  neB5 := by decide }
open Go.RowKit Go.Lib in
/-- THE MAIN CASE: at least two copies of a string that is not empty. (LAID: no walk: one application.) -/
theorem Try.strings_Repeat_main (s : ByteArray) (c : Nat) (w : World) (hc2 : 2 ≤ c) (hc : c ≤ 9223372036854775807) (hlen : s.size * c ≤ 140737488355328) (h0 : 0 < s.size) :
    Calls Try.prog 26 #[.string s, .int .i64 c] w fun e w' => e = .returned (.string ⟨(Lib.repeatL s.data.toList c).toArray⟩) ∧ Below w.heap.size w w' := Any.strings_Repeat_main Try.lays105 Try.Builder_Extra_105 s c w hc2 hc hlen h0
open Go.RowKit Go.Lib in
theorem Try.strings_Repeat_zero (s : ByteArray) (w : World) :
    Calls Try.prog 26 #[.string s, .int .i64 0] w fun e w' => e = .returned (.string ⟨#[]⟩) ∧ w' = w := Any.strings_Repeat_zero Try.lays105 s w
open Go.RowKit Go.Lib in
theorem Try.strings_Repeat_one (s : ByteArray) (w : World) :
    Calls Try.prog 26 #[.string s, .int .i64 1] w fun e w' => e = .returned (.string s) ∧ w' = w := Any.strings_Repeat_one Try.lays105 s w
open Go.RowKit Go.Lib in
/-- Copies of the empty string. (LAID: no walk: one application.) -/
theorem Try.strings_Repeat_empty (s : ByteArray) (c : Nat) (w : World) (hc2 : 2 ≤ c) (hc : c ≤ 9223372036854775807) (h0 : s.size = 0) :
    Calls Try.prog 26 #[.string s, .int .i64 c] w fun e w' => e = .returned (.string ⟨#[]⟩) ∧ w' = w := Any.strings_Repeat_empty Try.lays105 s c w hc2 hc h0
open Go.RowKit Go.Lib in
open Go.RowKit Go.Lib in
open Go.RowKit Go.Lib in
/-- **strings.Repeat: count ≥ 0, the result within one allocation: count copies of s.** (LAID: no walk: one application.) -/
theorem Try.strings_Repeat (s : ByteArray) (c : Nat) (w : World) (hc : c ≤ 9223372036854775807) (hlen : s.size * c ≤ 140737488355328) :
    Calls Try.prog 26 #[.string s, .int .i64 c] w fun e w' => e = .returned (.string ⟨(Lib.repeatL s.data.toList c).toArray⟩) ∧ Below w.heap.size w w' := Any.strings_Repeat Try.lays105 Try.Builder_Extra_105 s c w hc hlen
end Go.Proofs

/- The walk of pack.size. Conditions: numbers below 2^64. -/
namespace Go.Proofs.Ytepjillcmpmlkaa
open Go.RowKit Go.TL
theorem or128 (m : Nat) : UInt8.ofNat m ||| 128 = UInt8.ofNat (m % 128 + 128) := by
  have h : ∀ n : Fin 256, UInt8.ofNat n.1 ||| 128 = UInt8.ofNat (n.1 % 128 + 128) := by decide +kernel
  have e : UInt8.ofNat m = UInt8.ofNat (m % 256) := by apply UInt8.toNat_inj.1; simp
  have := h ⟨m % 256, by omega⟩
  rw [e, this, show m % 256 % 128 = m % 128 by omega]
theorem Len64_c (n : Nat) (w : World) (h : n < 18446744073709551616) :
    Calls Try.prog 80 #[.int .u64 n] w fun e w' => e = .returned (.int .i64 (Lib.bitLen n)) ∧ w = w' :=
  (Go.Proofs.Try.bits_Len64 n w (by omega) (by omega)).mono fun _ _ ⟨a, b⟩ => ⟨a, b.symm⟩
set_option maxHeartbeats 1000000 in
theorem size_c (n : Nat) (w : World) (h : n < 18446744073709551616) :
    Calls Try.prog 67 #[.int .u64 n] w fun e w' => e = .returned (.int .i64 (numL n).length) ∧ w = w' := by
  have hs := size_eq n h
  have hl := numL_length_le n h
  have hp := numL_pos n
  obtain ⟨k, ek⟩ : ∃ k, k = (numL n).length := ⟨_, rfl⟩
  obtain ⟨b, eb⟩ : ∃ b, b = Lib.bitLen n := ⟨_, rfl⟩
  rw [← ek, ← eb] at hs
  rw [← ek] at hl hp ⊢
  have hb : b ≤ 70 := by omega
  have L := Len64_c n w h
  rw [← eb] at L
  obtain ⟨q, eq⟩ : ∃ q, q = (b + 6) / 7 := ⟨_, rfl⟩
  have e1 : ((b : Int) + 7 - 1).tdiv 7 = (q : Int) := by rw [Int.tdiv_eq_ediv_of_nonneg (by omega)]; omega
  rw [← eq] at hs
  by_cases h1 : 1 ≤ q
  all_goals
    go_enter Try.func67, Try.ntmps67
    go_wp2_with (first | (go_at_call 80; go_must (refine (L).mono ?_; rintro e w1 ⟨rfl, rfl⟩)))
    go_ret
    exact ⟨by first | rfl | (congr; omega) | (simp; omega), rfl⟩
end Go.Proofs.Ytepjillcmpmlkaa

/- Bytes of texts, in a word that is closed to the walk. No conditions but those each law names. -/
namespace Go
namespace TL
open Go.RowKit
theorem lead_geI {s : List UInt8} {k : Nat} (h : k < lead s) : 128 ≤ I8 (bt s k) := by have := lead_ge s k h; rw [I8_bt]; omega
theorem lead_lastI {s : List UInt8} (h : lead s < s.length) : I8 (bt s (lead s)) < 128 := by have := lead_last s h; rw [I8_bt]; omega
theorem shl_or (n : Nat) (b : UInt8) (h : n < 144115188075855872) : I64 (w64 (n : Int) <<< 7 ||| w64 ((I8 b).tmod 128)) = ((b.toNat % 128 + 128 * n : Nat) : Int) := by
  have hb := I8_bd b
  rw [Int.tmod_eq_emod_of_nonneg hb.1, I8_eq, show ((b.toNat : Int) % 128) = ((b.toNat % 128 : Nat) : Int) by omega, w64_nat, w64_nat, I64_eq, UInt64.toNat_or, UInt64.toNat_shiftLeft]
  have e1 : (UInt64.ofNat n).toNat = n := by rw [UInt64.toNat_ofNat']; omega
  have e2 : (UInt64.ofNat (b.toNat % 128)).toNat = b.toNat % 128 := by rw [UInt64.toNat_ofNat']; omega
  rw [e1, e2]
  have e3 : ((7 : UInt64).toNat % 64) = 7 := rfl
  rw [e3, Nat.mod_eq_of_lt (by rw [Nat.shiftLeft_eq]; omega), ← Nat.shiftLeft_add_eq_or_of_lt (by omega), Nat.shiftLeft_eq]
  omega
theorem I64_nat (n : Nat) (h : n < 18446744073709551616) : I64 (w64 (n : Int)) = (n : Int) := by
  rw [w64_nat, I64_eq, UInt64.toNat_ofNat']; omega
theorem SeesB.of_own {w : World} {v : Value} {n : Nat} {l : List UInt8} (h : (Chunk.sl 1 v n (bs l)).ok w) (hn : n = l.length) : SeesB w v l := by
  subst hn; exact Own.sees h
end TL
end Go

/- The walks of pack.number and pack.bounded. Conditions: lengths. -/
namespace Go.Proofs.Ytepjillcmpmlkaa
open Go.RowKit Go.TL
set_option maxRecDepth 100000 in
set_option maxHeartbeats 2000000 in
theorem number_c (s : List UInt8) (w : World) (hs : s.length ≤ 1000000000) :
    Calls Try.prog 79 #[.string (mkS s)] w fun e w' => e = .returned (.tuple #[.int .u64 (readN s maxU).1, .int .i64 (readN s maxU).2.1, .int .i64 (readN s maxU).2.2]) ∧ w = w' := by
  obtain ⟨R, eR⟩ : ∃ R, R = readN s maxU := ⟨_, rfl⟩
  rw [← eR]
  have ER := Lib.hid eR; clear eR
  obtain ⟨L, eL⟩ : ∃ L, L = lead s := ⟨_, rfl⟩
  have hle : L ≤ s.length := by rw [eL]; exact lead_le s
  have EL := Lib.hid eL; clear eL
  go_enter Try.func79, Try.ntmps79
  go_wp2_with fail
  go_loop [3] (fun n => ∃ k : Nat, k ≤ L ∧ k ≤ 10 ∧ n = .int .i64 k) (fun n => s.length - (intOf n).toNat)
  case atStart => exact ⟨0, by omega, by omega, rfl⟩
  case round =>
    obtain ⟨k, hk, hk10, rfl⟩ := hrel
    by_cases hlt : k < L ∧ k < 10
    · obtain ⟨h1, h2⟩ := hlt
      have hb : 128 ≤ I8 (bt s k) := lead_geI (by rw [← EL.out]; exact h1)
      have hm : (k : Int) < min (s.length : Int) 10 := by omega
      go_wp2_with fail
      go_round
      case rel => exact ⟨k + 1, by omega, by omega, by go_num⟩
      case measure => simp [intOf]; omega
    · by_cases h10 : k = 10
      · subst h10
        have e : R = (0, 0, 8) := by rw [ER.out]; exact readN_form s (by rw [← EL.out]; omega) _
        subst e
        go_wp2_with fail
        go_ret3
        exact ⟨rfl, rfl⟩
      · have ek : L = k := by omega
        subst ek
        have h9 : L ≤ 9 := by omega
        by_cases hlen : L = s.length
        · have e : R = (0, 0, 7) := by rw [ER.out]; exact readN_short s (by rw [← EL.out]; omega) (by rw [← EL.out]; omega) _
          subst e
          have hm : ((L : Int) < min (s.length : Int) 10) = False := by simp; omega
          have hne : ((L : Int) == 10) = false := by simp; omega
          have heq : ((L : Int) == (s.length : Int)) = true := by simp; omega
          go_wp2_with fail
          go_ret3
          exact ⟨rfl, rfl⟩
        · have hlt' : L < s.length := by omega
          have hb : I8 (bt s L) < 128 := by
            have h2 : lead s < s.length := by rw [← EL.out]; exact hlt'
            have h1 := lead_lastI h2
            rwa [← EL.out] at h1
          have hm : (L : Int) < min (s.length : Int) 10 := by omega
          have hne : ((L : Int) == 10) = false := by simp; omega
          have heq : ((L : Int) == (s.length : Int)) = false := by simp; omega
          by_cases ht : L = 9 ∧ 1 < (bt s 9).toNat
          · obtain ⟨rfl, ht⟩ := ht
            have e : R = (0, 0, 8) := by rw [ER.out]; exact readN_ten s EL.out.symm (by rw [← EL.out]; omega) ht _
            subst e
            have hb2 : 1 < I8 (bt s 9) := by rw [I8_eq]; omega
            go_wp2_with fail
            go_ret3
            exact ⟨rfl, rfl⟩
          · have hb2 : L = 9 → I8 (bt s L) ≤ 1 := fun h => by subst h; rw [I8_eq]; omega
            have HB2 := Lib.hid hb2; clear hb2
            clear ht hlt h10 hlen hk hk10
            by_cases hn9 : L = 9
            have hq : ((L : Int) == 9) = true := by simp; omega
            have hb3 := HB2.out hn9
            replace hn9 := Lib.hid hn9
            go_wp2_with fail
            clear hq hb3
            rotate_left
            have hq : ((L : Int) == 9) = false := by simp; omega
            replace hn9 := Lib.hid hn9
            go_wp2_with fail
            clear hq
            rotate_left
            all_goals
              clear hm hne heq hn9
              obtain ⟨T, eT⟩ : ∃ T, T = s.take (L + 1) := ⟨_, rfl⟩
              have lT : T.length = L + 1 := by rw [eT]; simp; omega
              have h2 : lead s < s.length := by rw [← EL.out]; exact hlt'
              have h4 : lead s = 9 → (s.getD 9 0).toNat ≤ 1 := fun h => by
                have h := HB2.out (EL.out.trans h)
                rw [I8_bt, EL.out, ‹lead s = 9›] at h
                omega
              have DR : Hid (∀ j, numV (T.drop j) = if j ≤ L then (bt s j).toNat % 128 + 128 * numV (T.drop (j + 1)) else 0) := Lib.hid fun j => by
                by_cases hj : j ≤ L
                · have := numV_drop T j (by omega)
                  rw [if_pos hj, this, eT]; simp only [bt, List.getD_eq_getElem?_getD, List.getElem?_take]; rw [if_pos (by omega)]
                · rw [if_neg hj, List.drop_of_length_le (by omega)]; rfl
              have LT : Hid (∀ j, numV (T.drop (j + 1)) < 144115188075855872) := Lib.hid fun j => by
                rw [eT, EL.out]; exact numV_drop_lt s h2 (by rw [← EL.out]; exact h9) h4 (j + 1) (by omega)
              have RS := Lib.hid (readN_size s (by rw [← EL.out]; exact h9) h2 h4)
              rw [← ER.out, ← EL.out, ← eT] at RS
              have VT := numV_lt64 h2 (by rw [← EL.out]; exact h9) h4
              rw [← EL.out, ← eT] at VT
              have lT := Lib.hid lT
              clear eT h2 h4
              go_loop [2, 5] (fun nv iv => ∃ j : Nat, j ≤ L + 1 ∧ iv = .int .i64 ((j : Int) - 1) ∧ nv = .int .u64 (numV (T.drop j))) (fun _ iv => (intOf iv + 1).toNat)
              case atStart => exact ⟨L + 1, by omega, by go_num, by rw [List.drop_of_length_le (by have := lT.out; omega)]; rfl⟩
              case round =>
                obtain ⟨j, hj, rfl, rfl⟩ := hrel
                cases j with
                | zero =>
                  rw [List.drop_zero]
                  obtain ⟨V, eV⟩ : ∃ V, V = numV T := ⟨_, rfl⟩
                  rw [← eV] at RS VT ⊢
                  obtain ⟨z, ez⟩ : ∃ z, z = (numL V).length := ⟨_, rfl⟩
                  have SZ := Lib.hid (size_c V w VT)
                  rw [← ez] at RS SZ
                  clear eV ez
                  by_cases hz : z = L + 1
                  · have e := RS.out
                    rw [if_pos hz] at e
                    have hzz : ((z : Int) == (L : Int) + 1) = true := by simp; omega
                    have hzz' : ((z : Int) != (L : Int) + 1) = false := by simp; omega
                    subst e
                    go_wp2_with ((go_at_call 67; go_must (refine (SZ.out).mono ?_; rintro e w1 ⟨rfl, rfl⟩)))
                    go_ret3
                    exact ⟨by congr, rfl⟩
                  · have e := RS.out
                    rw [if_neg hz] at e
                    have hzz : ((z : Int) == (L : Int) + 1) = false := by simp; omega
                    have hzz' : ((z : Int) != (L : Int) + 1) = true := by simp; omega
                    subst e
                    go_wp2_with ((go_at_call 67; go_must (refine (SZ.out).mono ?_; rintro e w1 ⟨rfl, rfl⟩)))
                    go_ret3
                    exact ⟨rfl, rfl⟩
                | succ j =>
                  have l57 := LT.out j
                  have hjL : j ≤ L := by omega
                  have e : I64 (w64 ((numV (T.drop (j + 1)) : Nat) : Int) <<< 7 ||| w64 ((I8 (bt s j)).tmod 128)) = ((numV (T.drop j) : Nat) : Int) := by
                    rw [shl_or _ _ l57, DR.out j, if_pos hjL]
                  obtain ⟨X, eX⟩ : ∃ X, X = numV (T.drop (j + 1)) := ⟨_, rfl⟩
                  rw [← eX] at e l57 ⊢
                  have E := Lib.hid e
                  clear e eX
                  have hjs : j < s.length := by omega
                  go_wp2_with fail
                  go_round
                  case rel => exact ⟨j, by omega, rfl, by rw [E.out]⟩
                  case measure => simp [intOf]
end Go.Proofs.Ytepjillcmpmlkaa
