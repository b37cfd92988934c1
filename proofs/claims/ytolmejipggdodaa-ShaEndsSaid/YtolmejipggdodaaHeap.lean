/- The walk's memory: what is known of it, piece by piece, and what each operation does to it. No conditions but those each law names. -/
import Derived.Test.YtolmejipggdodaaLaw2
import Derived.Great.BuildSlice
namespace Go
namespace TL
open Go.RowKit
/-- A row of bytes, closed to the walk's simp; a text, likewise. -/
def bs (l : List UInt8) : List Value := l.map vb
def mkS (l : List UInt8) : ByteArray := ⟨l.toArray⟩
theorem bs_length (l : List UInt8) : (bs l).length = l.length := by simp [bs]
theorem bs_one (l : List UInt8) : ∀ q ∈ bs l, q.oneCell' = true := vb_one l
theorem bs_set (l : List UInt8) (i : Nat) (b : UInt8) : bs (l.set i b) = (bs l).set i (vb b) := by simp [bs, List.map_set]
theorem bs_append (l m : List UInt8) : bs (l ++ m) = bs l ++ bs m := by simp [bs]
theorem mkS_size (l : List UInt8) : (mkS l).size = l.length := by simp [mkS, ByteArray.size]
theorem mkS_data (l : List UInt8) : (mkS l).data.toList = l := by simp [mkS]
theorem mkS_toList (l : List UInt8) : (mkS l).toList = l := by simp [mkS, Lib.toList_data]
theorem mkS_append (l m : List UInt8) : mkS l ++ mkS m = mkS (l ++ m) := by
  apply ByteArray.ext; apply Array.ext'; simp [mkS]
theorem mkS_of (s : ByteArray) : ∃ l, s = mkS l := ⟨s.data.toList, by simp [mkS]⟩
theorem mkS_inj {l m : List UInt8} : mkS l = mkS m ↔ l = m := ⟨fun h => by rw [← mkS_toList l, h, mkS_toList], fun h => by rw [h]⟩
/-- Of what was there, only the blocks F have turned. -/
structure Kept (F : List Nat) (w0 w : World) : Prop where
  os : w.os = w0.os
  tape : w.tape = w0.tape
  output : w.output = w0.output
  size : w0.heap.size ≤ w.heap.size
  block : ∀ k, k < w0.heap.size → k ∉ F → w.heap[k]? = w0.heap[k]?
theorem Kept.refl (F : List Nat) (w : World) : Kept F w w := ⟨rfl, rfl, rfl, Nat.le_refl _, fun _ _ _ => rfl⟩
theorem Kept.below {w0 w : World} (h : Kept [] w0 w) : Below w0.heap.size w0 w := ⟨h.os, h.tape, h.output, h.size, fun k hk => h.block k hk (by simp)⟩
theorem Kept.of_below {w0 w : World} (h : Below w0.heap.size w0 w) (F : List Nat) : Kept F w0 w := ⟨h.os, h.tape, h.output, h.size, fun k hk _ => h.block k hk⟩
theorem Kept.trans {F G : List Nat} {a b c : World} (h : Kept F a b) (k : Kept G b c) (hG : ∀ x ∈ G, x ∈ F ∨ a.heap.size ≤ x) : Kept F a c :=
  ⟨k.os.trans h.os, k.tape.trans h.tape, k.output.trans h.output, Nat.le_trans h.size k.size, fun i hi hF => (k.block i (Nat.lt_of_lt_of_le hi h.size) fun hx => by
    rcases hG i hx with h1 | h1
    · exact hF h1
    · omega).trans (h.block i hi hF)⟩
theorem Kept.mono {F G : List Nat} {a b : World} (h : Kept F a b) (hG : ∀ x ∈ F, x ∈ G) : Kept G a b := ⟨h.os, h.tape, h.output, h.size, fun k hk hn => h.block k hk fun hx => hn (hG k hx)⟩
theorem Kept.grown {w w' : World} {row : Option Nat} (h : w.grownBy w' row) : Kept row.toList w w' :=
  ⟨h.os, h.tape, h.output, h.size, fun k hk hn => h.block k hk fun e => hn (by rw [← e]; simp)⟩
theorem Kept.drew {F : List Nat} {a w : World} (h : Kept F a w) : Kept F a w.drew := ⟨h.os, h.tape, h.output, h.size, h.block⟩
theorem Kept.alloc (w : World) (o : Obj) : Kept [] w (w.alloc o) := Kept.of_below ((Below.refl _ _).alloc (Nat.le_refl _) o) _
/-- A piece of memory: a block's cells; a slice that is owned; a whole object; whatever lies in some blocks. -/
inductive Chunk where
  | row (g : Nat) (cs : List Value)
  | sl (size : Nat) (v : Value) (n : Nat) (xs : List Value)
  | blk (g : Nat) (o : Obj)
  | obj (fp : List Nat) (p : World → Prop)
def Chunk.fp : Chunk → List Nat
  | .row g _ => [g]
  | .sl _ v _ _ => v.ownBlock.toList
  | .blk g _ => [g]
  | .obj f _ => f
def Chunk.ok (w : World) : Chunk → Prop
  | .row g cs => g < w.heap.size ∧ w.rangeAt g 0 cs ∧ w.there g 0 cs.length
  | .sl size v n xs => Own w 0 size v n xs
  | .blk g o => w.heap[g]? = some o
  | .obj f p => (∀ k ∈ f, k < w.heap.size) ∧ p w ∧ ∀ w' : World, w.heap.size ≤ w'.heap.size → (∀ k ∈ f, w'.heap[k]? = w.heap[k]?) → p w'
theorem Chunk.ok.lt {w : World} {c : Chunk} (h : c.ok w) : ∀ k ∈ c.fp, k < w.heap.size := by
  intro k hk
  cases c with
  | row g cs => simp [Chunk.fp] at hk; subst hk; exact h.1
  | sl size v n xs =>
    simp only [Chunk.fp, Option.mem_toList] at hk
    exact (Own.base_le h hk).2
  | blk g o => simp [Chunk.fp] at hk; subst hk; exact (Array.getElem?_eq_some_iff.1 h).1
  | obj f p => exact h.1 k hk
theorem Chunk.ok.stay {w w' : World} {c : Chunk} (h : c.ok w) (hs : w.heap.size ≤ w'.heap.size) (hb : ∀ k ∈ c.fp, w'.heap[k]? = w.heap[k]?) : c.ok w' := by
  cases c with
  | row g cs =>
    have e := hb g (by simp [Chunk.fp])
    exact ⟨Nat.lt_of_lt_of_le h.1 hs, rangeAt_of_block h.2.1 e, there_of_block h.2.2 e⟩
  | sl size v n xs =>
    refine ⟨h.1, h.2.imp id ?_⟩
    rintro ⟨g, o, cap, rfl, hb', hlt, hn, hc, hr, ht⟩
    have e := hb g (by simp [Chunk.fp, Value.ownBlock])
    exact ⟨g, o, cap, rfl, hb', Nat.lt_of_lt_of_le hlt hs, hn, hc, rangeAt_of_block hr e, there_of_block ht e⟩
  | blk g o => exact (hb g (by simp [Chunk.fp])).trans h
  | obj f p =>
    refine ⟨fun k hk => Nat.lt_of_lt_of_le (h.1 k hk) hs, h.2.2 w' hs hb, fun w'' hs' hb' => h.2.2 w'' (Nat.le_trans hs hs') fun k hk => (hb' k hk).trans (hb k hk)⟩
/-- What one piece's owner may do: the piece turns to another one, in the same blocks or new ones. -/
structure Upd (w : World) (c : Chunk) (w' : World) (c' : Chunk) : Prop where
  kept : Kept c.fp w w'
  ok : c'.ok w'
  fp : ∀ k ∈ c'.fp, k ∈ c.fp ∨ w.heap.size ≤ k
/-- THE MEMORY: of what was there at w0 only F has turned; these pieces are known, apart from each other, and may be written. -/
structure Mem (F : List Nat) (w0 w : World) (L : List Chunk) : Prop where
  kept : Kept F w0 w
  ok : ∀ (i : Nat) (c : Chunk), L[i]? = some c → c.ok w
  own : ∀ (i : Nat) (c : Chunk), L[i]? = some c → ∀ k ∈ c.fp, k ∈ F ∨ w0.heap.size ≤ k
  nd : ∀ (i j : Nat) (c d : Chunk), i ≠ j → L[i]? = some c → L[j]? = some d → ∀ k ∈ c.fp, k ∉ d.fp
theorem Mem.start (F : List Nat) (w : World) : Mem F w w [] := ⟨Kept.refl _ _, by simp, by simp, by simp⟩
/-- With a piece that came in, and may be turned. -/
theorem Mem.start1 {w : World} {c : Chunk} (h : c.ok w) : Mem c.fp w w [c] := by
  refine ⟨Kept.refl _ _, ?_, ?_, ?_⟩
  · intro i d hd; cases i <;> simp at hd; subst hd; exact h
  · intro i d hd; cases i <;> simp at hd; subst hd; exact fun k hk => .inl hk
  · intro i j c d hij hi hj; cases i <;> cases j <;> simp at hi hj hij
theorem Mem.upd {F : List Nat} {w0 w w' : World} {L : List Chunk} (M : Mem F w0 w L) (i : Nat) {c c' : Chunk} (hi : L[i]? = some c) (U : Upd w c w' c') : Mem F w0 w' (L.set i c') := by
  have hil : i < L.length := (List.getElem?_eq_some_iff.1 hi).1
  have key : ∀ (j : Nat) (d : Chunk), j ≠ i → L[j]? = some d → d.ok w' := fun j d hj hd => by
    refine (M.ok j d hd).stay U.kept.size fun k hk => U.kept.block k ((M.ok j d hd).lt k hk) fun hx => M.nd j i d c hj hd hi k hk hx
  refine ⟨M.kept.trans U.kept fun x hx => M.own i c hi x hx, ?_, ?_, ?_⟩
  · intro j d hd
    by_cases e : j = i
    · subst e; rw [List.getElem?_set_self hil] at hd; cases hd; exact U.ok
    · rw [List.getElem?_set_ne (Ne.symm e)] at hd; exact key j d e hd
  · intro j d hd k hk
    by_cases e : j = i
    · subst e; rw [List.getElem?_set_self hil] at hd; cases hd
      rcases U.fp k hk with h | h
      · exact M.own j c hi k h
      · exact .inr (Nat.le_trans M.kept.size h)
    · rw [List.getElem?_set_ne (Ne.symm e)] at hd; exact M.own j d hd k hk
  · intro a b x y hab ha hb k hk hk2
    by_cases e : a = i
    · subst e; rw [List.getElem?_set_self hil] at ha; cases ha
      rw [List.getElem?_set_ne hab] at hb
      rcases U.fp k hk with h | h
      · exact M.nd a b c y hab hi hb k h hk2
      · have := (M.ok b y hb).lt k hk2; omega
    · rw [List.getElem?_set_ne (Ne.symm e)] at ha
      by_cases e2 : b = i
      · subst e2; rw [List.getElem?_set_self hil] at hb; cases hb
        rcases U.fp k hk2 with h | h
        · exact M.nd a b x c hab ha hi k hk h
        · have := (M.ok a x ha).lt k hk; omega
      · rw [List.getElem?_set_ne (Ne.symm e2)] at hb
        exact M.nd a b x y hab ha hb k hk hk2
theorem Mem.add {F : List Nat} {w0 w w' : World} {L : List Chunk} (M : Mem F w0 w L) (c : Chunk) (hk : Kept [] w w') (hok : c.ok w') (hfp : ∀ k ∈ c.fp, w.heap.size ≤ k) : Mem F w0 w' (c :: L) := by
  have key : ∀ (j : Nat) (d : Chunk), L[j]? = some d → d.ok w' := fun j d hd => (M.ok j d hd).stay hk.size fun k hk' => hk.block k ((M.ok j d hd).lt k hk') (by simp)
  refine ⟨M.kept.trans hk (by simp), ?_, ?_, ?_⟩
  · intro j d hd
    cases j with
    | zero => simp at hd; subst hd; exact hok
    | succ j => simp at hd; exact key j d hd
  · intro j d hd k hk'
    cases j with
    | zero => simp at hd; subst hd; exact .inr (Nat.le_trans M.kept.size (hfp k hk'))
    | succ j => simp at hd; exact M.own j d hd k hk'
  · intro a b x y hab ha hb k hk1 hk2
    cases a with
    | zero =>
      simp at ha; subst ha
      cases b with
      | zero => exact hab rfl
      | succ b => simp at hb; have := (M.ok b y hb).lt k hk2; have := hfp k hk1; omega
    | succ a =>
      simp at ha
      cases b with
      | zero => simp at hb; subst hb; have := (M.ok a x ha).lt k hk1; have := hfp k hk2; omega
      | succ b => simp at hb; exact M.nd a b x y (by omega) ha hb k hk1 hk2
/-- A call that leaves alone what was there. -/
theorem Mem.call {F : List Nat} {w0 w w' : World} {L : List Chunk} (M : Mem F w0 w L) (h : Below w.heap.size w w') : Mem F w0 w' L := by
  have hk := Kept.of_below h []
  exact ⟨M.kept.trans hk (by simp), fun j d hd => (M.ok j d hd).stay hk.size fun k hk' => hk.block k ((M.ok j d hd).lt k hk') (by simp), M.own, M.nd⟩
theorem Mem.drew {F : List Nat} {w0 w : World} {L : List Chunk} (M : Mem F w0 w L) : Mem F w0 w.drew L := ⟨M.kept.drew, fun i c h => (M.ok i c h).stay (Nat.le_refl _) (fun _ _ => rfl), M.own, M.nd⟩
/-- A piece is let go; pieces are laid in another row. -/
theorem Mem.pick {F : List Nat} {w0 w : World} {L : List Chunk} (M : Mem F w0 w L) (L' : List Chunk) (f : Nat → Nat) (hf : ∀ i j, i < L'.length → j < L'.length → f i = f j → i = j) (h : ∀ (i : Nat) (c : Chunk), L'[i]? = some c → L[f i]? = some c) : Mem F w0 w L' :=
  ⟨M.kept, fun i c hc => M.ok (f i) c (h i c hc), fun i c hc => M.own (f i) c (h i c hc), fun i j c d hij hi hj => M.nd (f i) (f j) c d (fun e => hij (hf i j (List.getElem?_eq_some_iff.1 hi).1 (List.getElem?_eq_some_iff.1 hj).1 e)) (h i c hi) (h j d hj)⟩
theorem Mem.tail {F : List Nat} {w0 w : World} {c : Chunk} {L : List Chunk} (M : Mem F w0 w (c :: L)) : Mem F w0 w L := M.pick L (· + 1) (fun _ _ _ _ h => by simpa using h) (fun i c h => by simpa using h)
theorem Mem.below {w0 w : World} {L : List Chunk} (M : Mem [] w0 w L) : Below w0.heap.size w0 w := M.kept.below
/-- A nil slice is owned by whoever wants it. -/
theorem Mem.nil {F : List Nat} {w0 w : World} {L : List Chunk} (M : Mem F w0 w L) (size : Nat) : Mem F w0 w (.sl size (.slice none 0 0) 0 [] :: L) :=
  M.add _ (Kept.refl _ _) (Own_nil _ _ _) (by simp [Chunk.fp, Value.ownBlock])
/-- What is seen outside of the blocks that may turn is seen on. -/
theorem Mem.sees {F : List Nat} {w0 w : World} {L : List Chunk} (M : Mem F w0 w L) {size : Nat} {v : Value} {n : Nat} {xs : List Value} (S : Sees w0 size v n xs) (hF : ∀ k, v.ownBlock = some k → k ∉ F) : Sees w size v n xs := by
  refine ⟨S.1, S.2.imp id ?_⟩
  rintro ⟨g, o, cap, rfl, hlt, hn, hc, hr⟩
  have e := M.kept.block g hlt (hF g rfl)
  exact ⟨g, o, cap, rfl, Nat.lt_of_lt_of_le hlt M.kept.size, hn, hc, rangeAt_of_block hr e⟩
/-- The only piece, at the end. -/
theorem Mem.upd1 {w0 w : World} {c c' : Chunk} {L : List Chunk} (M : Mem c.fp w0 w L) (i : Nat) (hi : L[i]? = some c') : Upd w0 c w c' :=
  ⟨M.kept, M.ok i c' hi, M.own i c' hi⟩
/-! ### The operations -/
def scalarT (P : Program) (t : TypeId) : Bool := match P.underlying t with | some d => !d.isRow | none => false
def rowT (P : Program) (t : TypeId) : Bool := match P.underlying t with | some d => d.isRow | none => false
theorem run_loadVar_scalar {P : Program} {t : TypeId} (h : scalarT P t = true) (w : World) (b o : Nat) (v : Value) (hv : w.cell? ⟨b, o, none⟩ = some v) : (loadVar t ⟨b, o, none⟩).run P w = .ok v w := by
  unfold scalarT at h
  cases hu : P.underlying t with
  | none => simp [hu] at h
  | some d =>
    have hagg : (isAgg t).run P w = .ok false w := by
      unfold isAgg
      rw [Sem.run_bind, run_underlying hu w]
      cases d <;> simp_all [TypeDesc.isRow]
    simp [loadVar, Sem.run_bind, hagg, Go.load, Sem.run, hv]
theorem wpW {P : Program} {ops : Array Oper} {rest : List Oper} {o : Oper} {a : Act} {w : World} {Q : Exit → Act → World → Prop} (hw : Region.wanted o (yielded ops a.tmps) = true)
    (h : ∀ K : Act → World → Prop, (∀ a w, wpList P ops Q rest a w → K a w) → o.wp P a w K Q) : wpList P ops Q (o :: rest) a w :=
  wpList_want hw (h _ fun _ _ h => h)
section
variable {P : Program} {ops : Array Oper} {rest : List Oper} {o : Oper} {a : Act} {w w0 : World} {Q : Exit → Act → World → Prop} {F : List Nat} {L : List Chunk}
theorem Mem.cellAt (M : Mem F w0 w L) (i : Nat) {g : Nat} {cs : List Value} (hi : L[i]? = some (.row g cs)) {off : Nat} {v : Value} (hv : cs[off]? = some v) : w.cell? ⟨g, off, none⟩ = some v := by
  have := (M.ok i _ hi).2.1 off v hv
  rwa [Nat.zero_add] at this
/-- A load of one cell. -/
theorem w_load (M : Mem F w0 w L) (i : Nat) (t : TypeId) (x : Operand) (ho : o.op = .load t x) {g off : Nat} {cs : List Value} (hi : L[i]? = some (.row g cs)) (hx : a.eval x = .pointer (some ⟨g, off, none⟩)) (hw : Region.wanted o (yielded ops a.tmps) = true)
    (ht : scalarT P t = true) {v : Value} (hv : cs[off]? = some v) (h : wpList P ops Q rest (a.put o.dst v) w) : wpList P ops Q (o :: rest) a w :=
  wpW hw fun _ hK => by
    unfold Oper.wp execOp
    simp only [ho, hx, Instr.loadAt, Instr.sureAddr, Sem.run_bind, Sem.run_pure, Result.andThen_ok, run_loadVar_scalar ht w g off v (M.cellAt i hi hv)]
    exact hK _ _ h
/-- A load of a struct or an array that lies in the midst of a row. -/
theorem w_loadA (M : Mem F w0 w L) (i : Nat) (t : TypeId) (x : Operand) (ho : o.op = .load t x) {g off : Nat} {cs : List Value} (hi : L[i]? = some (.row g cs)) (hx : a.eval x = .pointer (some ⟨g, off, none⟩)) (hw : Region.wanted o (yielded ops a.tmps) = true)
    (ht : rowT P t = true) (pre mid post : List Value) (hcs : cs = pre ++ (mid ++ post)) (hpre : pre.length = off) (hn : (P.info? t).map (·.size) = some mid.length) (h : wpList P ops Q rest (a.put o.dst (.agg mid.toArray)) w) : wpList P ops Q (o :: rest) a w :=
  wpW hw fun _ hK => by
    unfold rowT at ht
    cases hu : P.underlying t with
    | none => simp [hu] at ht
    | some d =>
      simp only [hu] at ht
      refine wp_load_mid t x ho g off hx mid d ?_ hu ht hn (hK _ _ h)
      intro j v hv
      refine M.cellAt i hi ?_
      have hj : j < mid.length := (List.getElem?_eq_some_iff.1 hv).1
      rw [hcs, ← hpre, List.getElem?_append_right (by omega), Nat.add_sub_cancel_left, List.getElem?_append_left hj]; exact hv
/-- The whole of a row. -/
theorem w_loadR (M : Mem F w0 w L) (i : Nat) (t : TypeId) (x : Operand) (ho : o.op = .load t x) {g : Nat} {cs : List Value} (hi : L[i]? = some (.row g cs)) (hx : a.eval x = .pointer (some ⟨g, 0, none⟩)) (hw : Region.wanted o (yielded ops a.tmps) = true)
    (ht : rowT P t = true) (hn : (P.info? t).map (·.size) = some cs.length) (h : wpList P ops Q rest (a.put o.dst (.agg cs.toArray)) w) : wpList P ops Q (o :: rest) a w :=
  w_loadA M i t x ho hi hx hw ht [] cs [] (by simp) rfl hn h
/-- Cells are written. -/
theorem upd_setCells {g : Nat} {cs : List Value} (h : (Chunk.row g cs).ok w) (pre mid post new : List Value) (hcs : cs = pre ++ (mid ++ post)) (hnew : new.length = mid.length) :
    Upd w (.row g cs) (w.setCells g pre.length new) (.row g (pre ++ (new ++ post))) := by
  refine ⟨Kept.grown (grownBy_setCells w g pre.length new), ⟨by rw [size_setCells]; exact h.1, ?_, ?_⟩, fun k hk => .inl hk⟩
  · have hth := h.2.2
    rw [hcs] at hth
    have hr := h.2.1
    rw [hcs] at hr
    refine rangeAt_append ?_ (rangeAt_append ?_ ?_)
    · refine World.rangeAt_setCells_apart ?_ _ _ _ (.inr (.inl (by omega)))
      have := rangeAt_take hr pre.length
      rwa [List.take_left'  rfl] at this
    · rw [Nat.zero_add]
      refine World.rangeAt_setCells_same _ _ _ _ ?_
      have := there_drop hth pre.length
      rw [Nat.zero_add] at this
      exact there_mono this (by simp; omega)
    · refine World.rangeAt_setCells_apart ?_ _ _ _ (.inr (.inr (by omega)))
      have := rangeAt_drop hr (pre.length + mid.length)
      rw [← List.append_assoc, List.drop_left' (by simp)] at this
      rw [hnew, Nat.add_assoc]; exact this
  · have := h.2.2
    rw [hcs] at this
    refine World.there_setCells (there_mono this ?_) _ _ _
    simp; omega
theorem setCells_one (w : World) (g o : Nat) (v : Value) : w.setCells g o [v] = w.setCell ⟨g, o, none⟩ v := by simp [World.setCells]
theorem upd_setCell {g off : Nat} {cs : List Value} (h : (Chunk.row g cs).ok w) (hlt : off < cs.length) (v : Value) : Upd w (.row g cs) (w.setCell ⟨g, off, none⟩ v) (.row g (cs.set off v)) := by
  have := upd_setCells h (cs.take off) [cs[off]] (cs.drop (off + 1)) [v] (by simp) rfl
  rw [List.length_take, Nat.min_eq_left (by omega), setCells_one] at this
  rwa [List.set_eq_take_append_cons_drop, if_pos hlt]
/-- A store of one cell. -/
theorem w_store (M : Mem F w0 w L) (i : Nat) (t : TypeId) (x y : Operand) (ho : o.op = .store t x y) {g off : Nat} {cs : List Value} (hi : L[i]? = some (.row g cs)) (hx : a.eval x = .pointer (some ⟨g, off, none⟩)) (hw : Region.wanted o (yielded ops a.tmps) = true)
    {v : Value} (hy : a.eval y = v) (h1 : v.oneCell' = true) (hc : v.cells = #[v]) (hn : (P.info? t).map (·.size) = some 1) (hlt : off < cs.length)
    (h : ∀ w' : World, Mem F w0 w' (L.set i (.row g (cs.set off v))) → wpList P ops Q rest (a.put o.dst undef) w') : wpList P ops Q (o :: rest) a w :=
  wpW hw fun _ hK => by
    have hok := M.ok i _ hi
    have hst := run_storeCells_mid (P := P) (w := w) (g := g) (o := off) [v] (by have := there_drop hok.2.2 off; rw [Nat.zero_add] at this; exact there_mono this (by simp; omega)) (by simpa using h1)
    cases hq : P.info? t with
    | none => simp [hq] at hn
    | some inf =>
      have hs : inf.size = 1 := by simpa [hq] using hn
      unfold Oper.wp execOp
      simp only [ho, hx, hy, Instr.storeAt, Instr.sureAddr, storeVar, Sem.run_bind, Sem.run_pure, Result.andThen_ok, sizeOf, typeInfo, run_program, hq, hs, hc]
      simp only [List.size_toArray, List.length_cons, List.length_nil, Nat.zero_add, ne_eq, not_true_eq_false, if_false, hst, Result.andThen_ok]
      rw [setCells_one]
      exact hK _ _ (h _ (M.upd i hi (upd_setCell hok hlt v)))
/-- A store of a struct or an array. -/
theorem w_storeA (M : Mem F w0 w L) (i : Nat) (t : TypeId) (x y : Operand) (ho : o.op = .store t x y) {g off : Nat} {cs : List Value} (hi : L[i]? = some (.row g cs)) (hx : a.eval x = .pointer (some ⟨g, off, none⟩)) (hw : Region.wanted o (yielded ops a.tmps) = true)
    {C : Array Value} (new : List Value) (hy : a.eval y = .agg C) (hC : C = new.toArray) (hn : (P.info? t).map (·.size) = some new.length) (h1 : ∀ v ∈ new, v.oneCell' = true) (pre mid post : List Value) (hcs : cs = pre ++ (mid ++ post)) (hpre : pre.length = off) (hmid : new.length = mid.length)
    (h : ∀ w' : World, Mem F w0 w' (L.set i (.row g (pre ++ (new ++ post)))) → wpList P ops Q rest (a.put o.dst undef) w') : wpList P ops Q (o :: rest) a w :=
  wpW hw fun _ hK => by
    subst hC
    have hok := M.ok i _ hi
    have hth := hok.2.2
    rw [hcs] at hth
    refine wp_store_mid t x y ho g off new.toArray hx hy ?_ (by simpa using hn) (all_oneCell_toArray h1) (hK _ _ (h _ ?_))
    · have := there_drop hth off
      rw [Nat.zero_add] at this
      exact there_mono this (by simp; omega)
    · have := M.upd i hi (upd_setCells hok pre mid post new hcs hmid)
      rw [hpre] at this
      simpa using this
/-- The whole of a row is stored. -/
theorem w_storeR (M : Mem F w0 w L) (i : Nat) (t : TypeId) (x y : Operand) (ho : o.op = .store t x y) {g : Nat} {cs : List Value} (hi : L[i]? = some (.row g cs)) (hx : a.eval x = .pointer (some ⟨g, 0, none⟩)) (hw : Region.wanted o (yielded ops a.tmps) = true)
    {C : Array Value} (new : List Value) (hy : a.eval y = .agg C) (hC : C = new.toArray) (hn : (P.info? t).map (·.size) = some new.length) (h1 : ∀ v ∈ new, v.oneCell' = true) (hl : new.length = cs.length)
    (h : ∀ w' : World, Mem F w0 w' (L.set i (.row g new)) → wpList P ops Q rest (a.put o.dst undef) w') : wpList P ops Q (o :: rest) a w :=
  w_storeA M i t x y ho hi hx hw new hy hC hn h1 [] cs [] (by simp) rfl hl (fun w' M' => h w' (by simpa using M'))
theorem new_row (w : World) (C : Array Value) (t : TypeId) : (Chunk.row w.heap.size C.toList).ok (w.alloc (.cells C t)) :=
  ⟨by simp, rangeAt_new w C t (0, 0), there_new w C t _ (by simp)⟩
theorem Mem.alloc (M : Mem F w0 w L) (C : Array Value) (t : TypeId) : Mem F w0 (w.alloc (.cells C t)) (.row w.heap.size C.toList :: L) :=
  M.add _ (Kept.alloc _ _) (new_row w C t) (by simp [Chunk.fp])
/-- A new variable. -/
theorem w_alloc (M : Mem F w0 w L) (t : TypeId) (ho : o.op = .alloc t) (hw : Region.wanted o (yielded ops a.tmps) = true) (z : Value) (cs : List Value) (hz : (P.info? t).bind (·.zero) = some z) (hc : z.cells = cs.toArray)
    (h : ∀ (g : Nat) (w' : World), Mem F w0 w' (.row g cs :: L) → wpList P ops Q rest (a.put o.dst (.pointer (some ⟨g, 0, none⟩))) w') : wpList P ops Q (o :: rest) a w :=
  wpW hw fun _ hK => by
    cases hq : P.info? t with
    | none => simp [hq] at hz
    | some inf =>
      have hzz : inf.zero = some z := by simpa [hq] using hz
      have hr : (Instr.alloc t true (.tuple #[])).run P w = .ok (.pointer (some ⟨w.heap.size, 0, none⟩)) (w.alloc (.cells z.cells t)) := by
        simp only [Instr.alloc, zeroValue, typeInfo, Sem.run_bind, run_program, hq, Sem.run_pure, Result.andThen_ok, hzz]; rfl
      unfold Oper.wp execOp
      simp only [ho, Sem.run_bind, hr, Result.andThen_ok]
      exact hK _ _ (h _ _ (by have := M.alloc z.cells t; rw [hc] at this ⊢; exact this))
/-- A value is boxed. -/
theorem w_box (M : Mem F w0 w L) (t : TypeId) (x : Operand) (ho : o.op = .box t x) (hw : Region.wanted o (yielded ops a.tmps) = true) (v : Value) (hx : a.eval x = v) (cs : List Value) (hc : v.cells = cs.toArray)
    (h : ∀ (g : Nat) (w' : World), Mem F w0 w' (.row g cs :: L) → wpList P ops Q rest (a.put o.dst (.pointer (some ⟨g, 0, none⟩))) w') : wpList P ops Q (o :: rest) a w :=
  wpW hw fun _ hK => by
    have hr : (Instr.box t v).run P w = .ok (.pointer (some ⟨w.heap.size, 0, none⟩)) (w.alloc (.cells v.cells t)) := rfl
    unfold Oper.wp execOp
    simp only [ho, hx, Sem.run_bind, hr, Result.andThen_ok]
    exact hK _ _ (h _ _ (by have := M.alloc v.cells t; rw [hc] at this ⊢; exact this))
/-- A slice literal. -/
theorem w_buildSlice (M : Mem F w0 w L) {t e : TypeId} {size bytes : Nat} (T : SliceT P t e size bytes) (len : Nat) (parts : Array (Nat × Operand)) (ho : o.op = .buildSlice t len parts) (hw : Region.wanted o (yielded ops a.tmps) = true) (hlen : 0 < len ∧ len * size ≤ 16777216) (z : Value) (hz : (P.info? e).bind (·.zero) = some z) (cs : List Value)
    (hf : Instr.fill (fun i => some (i * size, size)) ((Array.range (len * size)).map (z.cells[· % z.cells.size]!)) (parts.map fun (i, x) => (i, a.eval x)).toList = some cs.toArray)
    (h : ∀ (g : Nat) (w' : World), Mem F w0 w' (.row g cs :: L) → wpList P ops Q rest (a.put o.dst (.slice (some ⟨g, 0, none⟩) len len)) w') : wpList P ops Q (o :: rest) a w :=
  wpW hw fun _ hK => by
    obtain ⟨ht, ⟨i, z', hi, hz', hsize, hby, hzs⟩, hsz⟩ := T
    have ez : z' = z := by simpa [hi, hz'] using hz
    subst ez hsize
    have hr := run_buildSlice (P := P) w t e len _ cs.toArray i z' ht hi hz' (by omega) (by have := Nat.mul_pos hlen.1 hsz; omega) hf
    unfold Oper.wp execOp
    simp only [ho, Sem.run_bind, hr, Result.andThen_ok]
    exact hK _ _ (h _ _ (M.alloc cs.toArray e))
theorem foldl_set (l : List Value) : ∀ (k : Nat) (C : Array Value), k + l.length ≤ C.size → ((l.zipIdx k).foldl (fun cs x => cs.setIfInBounds x.2 x.1) C).toList = C.toList.take k ++ l ++ C.toList.drop (k + l.length) := by
  induction l with
  | nil => intro k C h; simp
  | cons v r ih =>
    intro k C h
    simp only [List.length_cons] at h
    rw [List.zipIdx_cons, List.foldl_cons, ih (k + 1) _ (by simp; omega)]
    have hk : k < C.toList.length := by simpa using (by omega : k < C.size)
    rw [Array.toList_setIfInBounds, List.take_set, List.take_succ_eq_append_getElem hk, List.drop_set_of_lt (by omega), List.set_append_right _ _ (by simp; omega)]
    simp only [List.length_take, Nat.min_eq_left (Nat.le_of_lt hk), Nat.sub_self, List.set_cons_zero, List.length_cons]
    rw [show k + 1 + r.length = k + (r.length + 1) by omega]
    simp
theorem fill_one (size : Nat) (C : Array Value) (hC : C.size = size) (v : Value) (hv : v.cells.size = size) : Instr.fill (fun i => some (i * size, size)) C [(0, v)] = some v.cells := by
  have e := foldl_set v.cells.toList 0 C (by simp [hC, hv])
  have e2 : (v.cells.zipIdx.foldl (fun cs x => cs.setIfInBounds (0 * size + x.2) x.1) C) = v.cells := by
    apply Array.ext'
    rw [← Array.foldl_toList]
    simp only [Nat.zero_mul, Nat.zero_add, Array.toList_zipIdx]
    rw [e]
    simp [hv, hC]
  simp only [Instr.fill, Nat.zero_mul, Nat.zero_add, hv, hC]
  simp only [Nat.zero_mul, Nat.zero_add] at e2
  have hz : v.cells.size = v.cells.zipIdx.size := by simp
  simp
  rw [hz]
  exact e2
/-- A slice literal of one element. -/
theorem w_buildSlice1 (M : Mem F w0 w L) {t e : TypeId} {size bytes : Nat} (T : SliceT P t e size bytes) (hsm : size ≤ 1000) (x : Operand) (ho : o.op = .buildSlice t 1 #[(0, x)]) (hw : Region.wanted o (yielded ops a.tmps) = true) {v : Value} (hx : a.eval x = v) (cs : List Value) (hc : v.cells = cs.toArray) (hcs : cs.length = size)
    (h : ∀ (g : Nat) (w' : World), Mem F w0 w' (.row g cs :: L) → wpList P ops Q rest (a.put o.dst (.slice (some ⟨g, 0, none⟩) 1 1)) w') : wpList P ops Q (o :: rest) a w := by
  have T' := T
  obtain ⟨ht, ⟨i, z', hi, hz', hsize, hby, hzs⟩, hsz⟩ := T'
  refine w_buildSlice M T 1 _ ho hw ⟨by omega, by omega⟩ z' (by simp [hi, hz']) cs ?_ h
  have := fill_one size ((Array.range (1 * size)).map (z'.cells[· % z'.cells.size]!)) (by simp) v (by rw [hc]; simpa using hcs)
  rw [hc] at this
  subst hx
  simpa using this
theorem Own.form0 {base size : Nat} {v : Value} {n : Nat} {xs : List Value} (h : Own w base size v n xs) : ∃ a cap, v = .slice a n cap := by
  obtain ⟨a, c, e, _⟩ := h.sees.form; exact ⟨a, c, e⟩
/-- append of what is read at another place. -/
theorem w_append (M : Mem F w0 w L) (i : Nat) {t e : TypeId} {size bytes : Nat} (T : SliceT P t e size bytes) (s x : Operand) (u : TypeId) (ho : o.op = .call { callee := .builtin .append, args := #[s, x], argTypes := #[t, u] }) (hu : P.underlying u = some .string ∨ ∃ e', P.underlying u = some (.slice e'))
    (hw : Region.wanted o (yielded ops a.tmps) = true) {v : Value} {n : Nat} {xs : List Value} (hi : L[i]? = some (.sl size v n xs)) (hs : a.eval s = v) {xv : Value} (hx : a.eval x = xv) (m : Nat) (news : List Value) (hsrc : Src P w size xv m news)
    (h63 : n + m ≤ maxLen) (hbytes : (n + m) * bytes ≤ 140737488355328)
    (h : ∀ (p : Option Addr) (cap : Nat) (w' : World), Mem F w0 w' (L.set i (.sl size (.slice p (n + m) cap) (n + m) (xs ++ news))) → wpList P ops Q rest (a.put o.dst (.slice p (n + m) cap)) w') : wpList P ops Q (o :: rest) a w :=
  wpW hw fun _ hK => by
    refine wp_append T s x u ho hu 0 v n xs hs (M.ok i _ hi) xv m news hx hsrc h63 hbytes (Nat.zero_le _) ?_
    intro v' w' hown hg hb _
    obtain ⟨p, cap, rfl⟩ := hown.form0
    refine hK _ _ (h p cap w' (M.upd i hi ⟨Kept.grown hg, hown, fun k hk => ?_⟩))
    simp only [Chunk.fp, Option.mem_toList] at hk ⊢
    rcases hb with hb | hb
    · exact .inl (hb ▸ hk)
    · rw [hb] at hk; cases hk; exact .inr (Nat.le_refl _)
/-- append of elements that were laid into a row of their own just ahead. -/
theorem w_append_new {g : Nat} {news : List Value} (M : Mem F w0 w (.row g news :: L)) (i : Nat) {t e : TypeId} {size bytes : Nat} (T : SliceT P t e size bytes) (s x : Operand) (ho : o.op = .call { callee := .builtin .append, args := #[s, x], argTypes := #[t, t] })
    (hw : Region.wanted o (yielded ops a.tmps) = true) {v : Value} {n : Nat} {xs : List Value} (hi : L[i]? = some (.sl size v n xs)) (hs : a.eval s = v) {m : Nat} (hx : a.eval x = .slice (some ⟨g, 0, none⟩) m m) (hm : news.length = m * size) (h1 : ∀ q ∈ news, q.oneCell' = true)
    (hmm : m ≤ 1000000) (h63 : n + m ≤ maxLen) (hbytes : (n + m) * bytes ≤ 140737488355328)
    (h : ∀ (p : Option Addr) (cap : Nat) (w' : World), Mem F w0 w' (L.set i (.sl size (.slice p (n + m) cap) (n + m) (xs ++ news))) → wpList P ops Q rest (a.put o.dst (.slice p (n + m) cap)) w') : wpList P ops Q (o :: rest) a w := by
  have hok := M.ok 0 _ rfl
  refine w_append M.tail i T s x t ho (.inr ⟨e, T.ht⟩) hw hi hs hx m news (Src_of_sees ⟨hm, .inr ⟨g, 0, m, rfl, hok.1, Nat.le_refl _, by simp only [maxLen]; omega, hok.2.1⟩⟩ h1) h63 hbytes h
/-- string(b), b owned. -/
theorem w_string (M : Mem F w0 w L) (i : Nat) (src dst e : TypeId) (x : Operand) (ho : o.op = .convert src dst x) (hw : Region.wanted o (yielded ops a.tmps) = true) {v : Value} {l : List UInt8} {n : Nat} (hi : L[i]? = some (.sl 1 v n (bs l))) (hn : n = l.length) (hx : a.eval x = v)
    (hs : P.underlying src = some (.slice e)) (he : P.underlying e = some (.int .u8)) (hd : P.underlying dst = some .string)
    (h : wpList P ops Q rest (a.put o.dst (.string (mkS l))) w) : wpList P ops Q (o :: rest) a w :=
  wpW hw fun _ hK => by
    subst hn
    have hr := SeesB.run_string (P := P) (l := l) (Own.sees (M.ok i _ hi)) src dst e hs he hd w (grownBy_refl _ _)
    unfold Oper.wp execOp
    simp only [ho, hx, Sem.run_bind, hr, Result.andThen_ok]
    exact hK _ _ h
theorem row_sees {g off n cap : Nat} {l : List UInt8} (h : (Chunk.row g (bs l)).ok w) (ho : off + n ≤ l.length) (hc : n ≤ cap) (hm : cap ≤ maxLen) : SeesB w (.slice (some ⟨g, off, none⟩) n cap) ((l.drop off).take n) := by
  have hl : ((l.drop off).take n).length = n := by simp; omega
  refine ⟨by simp, .inr ⟨g, off, cap, by rw [hl], h.1, by omega, hm, ?_⟩⟩
  have := rangeAt_take (rangeAt_drop h.2.1 off) n
  rw [Nat.zero_add] at this
  rwa [List.map_take, List.map_drop]
/-- string(a[i:k]), a an array. -/
theorem w_stringR (M : Mem F w0 w L) (i : Nat) (src dst e : TypeId) (x : Operand) (ho : o.op = .convert src dst x) (hw : Region.wanted o (yielded ops a.tmps) = true) {g : Nat} {l : List UInt8} (hi : L[i]? = some (.row g (bs l))) {off n cap : Nat} (hx : a.eval x = .slice (some ⟨g, off, none⟩) n cap)
    (hb : off + n ≤ l.length) (hc : n ≤ cap) (hm : cap ≤ maxLen) (hs : P.underlying src = some (.slice e)) (he : P.underlying e = some (.int .u8)) (hd : P.underlying dst = some .string)
    (h : wpList P ops Q rest (a.put o.dst (.string (mkS ((l.drop off).take n)))) w) : wpList P ops Q (o :: rest) a w :=
  wpW hw fun _ hK => by
    have hr := SeesB.run_string (P := P) (row_sees (M.ok i _ hi) hb hc hm) src dst e hs he hd w (grownBy_refl _ _)
    unfold Oper.wp execOp
    simp only [ho, hx, Sem.run_bind, hr, Result.andThen_ok]
    exact hK _ _ h
/-- string(a[:]), a an array. -/
theorem w_stringW (M : Mem F w0 w L) (i : Nat) (src dst e : TypeId) (x : Operand) (ho : o.op = .convert src dst x) (hw : Region.wanted o (yielded ops a.tmps) = true) {g : Nat} {l : List UInt8} (hi : L[i]? = some (.row g (bs l))) {n : Nat} (hx : a.eval x = .slice (some ⟨g, 0, none⟩) n n)
    (hb : l.length = n) (hm : n ≤ maxLen) (hs : P.underlying src = some (.slice e)) (he : P.underlying e = some (.int .u8)) (hd : P.underlying dst = some .string)
    (h : wpList P ops Q rest (a.put o.dst (.string (mkS l))) w) : wpList P ops Q (o :: rest) a w :=
  w_stringR M i src dst e x ho hw hi hx (by omega) (Nat.le_refl _) hm hs he hd (by rw [List.drop_zero, List.take_of_length_le (by omega)]; exact h)
/-- copy into an array's cells. -/
theorem w_copy (M : Mem F w0 w L) (i : Nat) {t e : TypeId} {size bytes : Nat} (T : SliceT P t e size bytes) (d x : Operand) (u : TypeId) (ho : o.op = .call { callee := .builtin .copy, args := #[d, x], argTypes := #[t, u] }) (hw : Region.wanted o (yielded ops a.tmps) = true)
    {g off dl dc : Nat} {cs : List Value} (hi : L[i]? = some (.row g cs)) (hd : a.eval d = .slice (some ⟨g, off, none⟩) dl dc) {xv : Value} (hx : a.eval x = xv) (m : Nat) (news : List Value) (hsrc : Src P w size xv m news)
    (k : Nat) (hk : k = Nat.min m dl) (hlen : off + k * size ≤ cs.length)
    (h : ∀ w' : World, Mem F w0 w' (L.set i (.row g (cs.take off ++ (news.take (k * size) ++ cs.drop (off + k * size))))) → wpList P ops Q rest (a.put o.dst (.int .i64 k)) w') : wpList P ops Q (o :: rest) a w :=
  wpW hw fun _ hK => by
    have hok := M.ok i _ hi
    have hth := there_drop hok.2.2 off
    rw [Nat.zero_add] at hth
    have hr := run_copy_any (P := P) (w := w) T u o.type g off dl dc xv m news hsrc k hk (there_mono hth (by omega))
    unfold Oper.wp execOp
    simp only [ho, resolve, invoke, builtin, Sem.run_bind, Sem.run_pure, Result.andThen_ok, List.map_toArray, List.map_cons, List.map_nil, hd, hx, hr]
    have hkm : k ≤ m := by rw [hk]; exact Nat.min_le_left _ _
    have hl : (news.take (k * size)).length = k * size := by
      rw [List.length_take, hsrc.1]; exact Nat.min_eq_left (Nat.mul_le_mul_right _ hkm)
    have U := upd_setCells hok (cs.take off) ((cs.drop off).take (k * size)) (cs.drop (off + k * size)) (news.take (k * size)) (by rw [← List.drop_drop, List.take_append_drop, List.take_append_drop]) (by rw [hl, List.length_take, List.length_drop, Nat.min_eq_left (by omega)])
    rw [List.length_take, Nat.min_eq_left (by omega)] at U
    exact hK _ _ (h _ (M.upd i hi U))
/-- A guard that is not decided yet. -/
theorem w_guard {dst : Option Tmp} {op : Op} {ty : TypeId} {pos : String} {after : Array Edge} {j : Nat} {want b : Bool} (hb : yielded ops a.tmps j = some b)
    (h1 : b = want → wpList P ops Q (Oper.mk dst op ty pos after none :: rest) a w) (h2 : b = (!want) → wpList P ops Q rest (a.put dst undef) w) : wpList P ops Q (Oper.mk dst op ty pos after (some (j, want)) :: rest) a w := by
  by_cases e : b = want
  · have h := h1 e
    unfold wpList at h ⊢
    rw [if_pos (by simp [Region.wanted])] at h
    rw [if_pos (by simp [Region.wanted, hb, e])]
    exact h
  · have h := h2 (by cases b <;> cases want <;> simp_all)
    unfold wpList
    rw [if_neg (by simp [Region.wanted, hb, e])]
    exact h
end
end TL
end Go
namespace Go
namespace TL
open Go.RowKit
section
variable {P : Program} {ops : Array Oper} {rest : List Oper} {o : Oper} {a : Act} {w w0 : World} {Q : Exit → Act → World → Prop} {F : List Nat} {L : List Chunk}
theorem getD_some {l : List UInt8} {i : Nat} (h : i < l.length) : (bs l)[i]? = some (.int .u8 (I8 (l.getD i 0))) := by
  rw [bs, List.getElem?_map, List.getD_eq_getElem?_getD, List.getElem?_eq_getElem h]; rfl
/-- A byte of an array. -/
theorem w_loadB (M : Mem F w0 w L) (i : Nat) (t : TypeId) (x : Operand) (ho : o.op = .load t x) {g off : Nat} {l : List UInt8} (hi : L[i]? = some (.row g (bs l))) (hx : a.eval x = .pointer (some ⟨g, off, none⟩)) (hw : Region.wanted o (yielded ops a.tmps) = true)
    (ht : scalarT P t = true) (hlt : off < l.length) (h : wpList P ops Q rest (a.put o.dst (.int .u8 (I8 (l.getD off 0)))) w) : wpList P ops Q (o :: rest) a w :=
  w_load M i t x ho hi hx hw ht (getD_some hlt) h
/-- A whole array of bytes. -/
theorem w_loadH (M : Mem F w0 w L) (i : Nat) (t : TypeId) (x : Operand) (ho : o.op = .load t x) {g : Nat} {l : List UInt8} (hi : L[i]? = some (.row g (bs l))) (hx : a.eval x = .pointer (some ⟨g, 0, none⟩)) (hw : Region.wanted o (yielded ops a.tmps) = true)
    (ht : rowT P t = true) {n : Nat} (hl : l.length = n) (hn : (P.info? t).map (·.size) = some n) (h : wpList P ops Q rest (a.put o.dst (.agg (bs l).toArray)) w) : wpList P ops Q (o :: rest) a w :=
  w_loadR M i t x ho hi hx hw ht (by rw [bs_length, hl]; exact hn) h
theorem w_storeB (M : Mem F w0 w L) (i : Nat) (t : TypeId) (x y : Operand) (ho : o.op = .store t x y) {g off : Nat} {l : List UInt8} (hi : L[i]? = some (.row g (bs l))) (hx : a.eval x = .pointer (some ⟨g, off, none⟩)) (hw : Region.wanted o (yielded ops a.tmps) = true)
    {b : UInt8} (hy : a.eval y = .int .u8 (I8 b)) (hn : (P.info? t).map (·.size) = some 1) (hlt : off < l.length)
    (h : ∀ w' : World, Mem F w0 w' (L.set i (.row g (bs (l.set off b)))) → wpList P ops Q rest (a.put o.dst undef) w') : wpList P ops Q (o :: rest) a w :=
  w_store M i t x y ho hi hx hw hy rfl rfl hn (by rw [bs_length]; exact hlt) (fun w' M' => h w' (by rw [bs_set]; exact M'))
theorem w_storeH (M : Mem F w0 w L) (i : Nat) (t : TypeId) (x y : Operand) (ho : o.op = .store t x y) {g : Nat} {l : List UInt8} (hi : L[i]? = some (.row g (bs l))) (hx : a.eval x = .pointer (some ⟨g, 0, none⟩)) (hw : Region.wanted o (yielded ops a.tmps) = true)
    {m : List UInt8} (hy : a.eval y = .agg (m.map vb).toArray) {n : Nat} (hm : m.length = n) (hn : (P.info? t).map (·.size) = some n) (hl : l.length = n)
    (h : ∀ w' : World, Mem F w0 w' (L.set i (.row g (bs m))) → wpList P ops Q rest (a.put o.dst undef) w') : wpList P ops Q (o :: rest) a w :=
  w_storeR M i t x y ho hi hx hw (bs m) hy rfl (by rw [bs_length, hm]; exact hn) (bs_one _) (by simp [bs_length, hm, hl]) h
theorem w_strip {dst : Option Tmp} {op : Op} {ty : TypeId} {pos : String} {after : Array Edge} {j : Nat} {want b : Bool} (hb : yielded ops a.tmps j = some b) (hl : b = want)
    (h : wpList P ops Q (Oper.mk dst op ty pos after none :: rest) a w) : wpList P ops Q (Oper.mk dst op ty pos after (some (j, want)) :: rest) a w := by
  subst hl
  unfold wpList at h ⊢
  rw [if_pos (by simp [Region.wanted])] at h
  rw [if_pos (by simp [Region.wanted, hb])]
  exact h
theorem w_lit {dst : Option Tmp} {op : Op} {ty : TypeId} {pos : String} {after : Array Edge} {j : Nat} {want b : Bool} (c : Bool) (_hb : yielded ops a.tmps j = some b) (_hl : b = c)
    (h : wpList P ops Q (Oper.mk dst op ty pos after (some (j, want)) :: rest) a w) : wpList P ops Q (Oper.mk dst op ty pos after (some (j, want)) :: rest) a w := h
theorem w_case {dst : Option Tmp} {op : Op} {ty : TypeId} {pos : String} {after : Array Edge} {j : Nat} {want b : Bool} (_hb : yielded ops a.tmps j = some b)
    (h1 : b = true → wpList P ops Q (Oper.mk dst op ty pos after (some (j, want)) :: rest) a w) (h0 : b = false → wpList P ops Q (Oper.mk dst op ty pos after (some (j, want)) :: rest) a w) : wpList P ops Q (Oper.mk dst op ty pos after (some (j, want)) :: rest) a w := by
  cases b
  · exact h0 rfl
  · exact h1 rfl
end
end TL
end Go
namespace Go
namespace TL
theorem ev_tmp {l : List Value} {d : List Deferred} {n : Nat} {v : Value} (h : l[n]? = some v) : Act.eval ⟨l.toArray, d⟩ (.tmp n) = v := by
  simp [Act.eval, h]
theorem ev_const {a : Act} {v : Value} : a.eval (.const v) = v := rfl
theorem w_at {P : Program} {ops : Array Oper} {rest : List Oper} {o : Oper} {a : Act} {w : World} {Q : Exit → Act → World → Prop} (t : TypeId) (x : Operand) (_ho : o.op = .load t x) {v : Value} (hx : a.eval x = v)
    (h : a.eval x = v → wpList P ops Q (o :: rest) a w) : wpList P ops Q (o :: rest) a w := h hx
theorem w_at2 {P : Program} {ops : Array Oper} {rest : List Oper} {o : Oper} {a : Act} {w : World} {Q : Exit → Act → World → Prop} (t : TypeId) (x y : Operand) (_ho : o.op = .store t x y) {v u : Value} (hx : a.eval x = v) (hy : a.eval y = u)
    (h : a.eval x = v → a.eval y = u → wpList P ops Q (o :: rest) a w) : wpList P ops Q (o :: rest) a w := h hx hy
end TL
end Go
