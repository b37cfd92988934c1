/- Texts of this seat, put together: Heap, Str, HashE, ShaO, MacC. Each begins with a remark that says what is proved in it, and under which conditions. -/
import Derived.Test.YtidadhbaomieiaaGreatY
import Derived.Great.BuildSlice
import Derived.Lib.ConvBytes
import Derived.Test.YtidadhbaomieiaaGreatZc
set_option maxRecDepth 100000
set_option maxHeartbeats 16000000
namespace Go
namespace TL
open Go.RowKit
theorem setC {α : Type _} (a : α) (l : List α) (b : α) : (a :: l).set 0 b = b :: l ∧ ∀ n, (a :: l).set (n + 1) b = a :: l.set n b := ⟨rfl, fun _ => rfl⟩
theorem at0 {α : Type _} {c : α} {L : List α} : (c :: L)[0]? = some c := rfl
theorem at1 {α : Type _} {a0 c : α} {L : List α} : (a0 :: c :: L)[1]? = some c := rfl
theorem at2 {α : Type _} {a0 a1 c : α} {L : List α} : (a0 :: a1 :: c :: L)[2]? = some c := rfl
theorem at3 {α : Type _} {a0 a1 a2 c : α} {L : List α} : (a0 :: a1 :: a2 :: c :: L)[3]? = some c := rfl
theorem at4 {α : Type _} {a0 a1 a2 a3 c : α} {L : List α} : (a0 :: a1 :: a2 :: a3 :: c :: L)[4]? = some c := rfl
theorem at5 {α : Type _} {a0 a1 a2 a3 a4 c : α} {L : List α} : (a0 :: a1 :: a2 :: a3 :: a4 :: c :: L)[5]? = some c := rfl
theorem at6 {α : Type _} {a0 a1 a2 a3 a4 a5 c : α} {L : List α} : (a0 :: a1 :: a2 :: a3 :: a4 :: a5 :: c :: L)[6]? = some c := rfl
theorem at7 {α : Type _} {a0 a1 a2 a3 a4 a5 a6 c : α} {L : List α} : (a0 :: a1 :: a2 :: a3 :: a4 :: a5 :: a6 :: c :: L)[7]? = some c := rfl
theorem at8 {α : Type _} {a0 a1 a2 a3 a4 a5 a6 a7 c : α} {L : List α} : (a0 :: a1 :: a2 :: a3 :: a4 :: a5 :: a6 :: a7 :: c :: L)[8]? = some c := rfl
def bs (l : List UInt8) : List Value := l.map vb
def mkS (l : List UInt8) : ByteArray := ⟨l.toArray⟩
theorem lenI {α : Type} {l : List α} {n : Nat} [h : HXor (PLift (l = l)) Unit (PLift (l.length = n))] : l.length = n := (h.hXor ⟨rfl⟩ ()).down
theorem lenS {α : Type} {l : List α} {n i : Nat} {x : α} (h : l.length = n) : (l.set i x).length = n := by rw [List.length_set, h]
instance lenReplicate {α : Type} {x : α} {n : Nat} : HXor (PLift (List.replicate n x = List.replicate n x)) Unit (PLift ((List.replicate n x).length = n)) := ⟨fun _ _ => ⟨List.length_replicate⟩⟩
instance lenSet {α : Type} {l : List α} {x : α} {n i : Nat} [h : HXor (PLift (l = l)) Unit (PLift (l.length = n))] : HXor (PLift (l.set i x = l.set i x)) Unit (PLift ((l.set i x).length = n)) := ⟨fun _ _ => ⟨lenS (h.hXor ⟨rfl⟩ ()).down⟩⟩
theorem bs_length (l : List UInt8) : (bs l).length = l.length := by simp [bs]
theorem bs_one (l : List UInt8) : ∀ q ∈ bs l, q.oneCell' = true := vb_one l
theorem bs_set (l : List UInt8) (i : Nat) (b : UInt8) : bs (l.set i b) = (bs l).set i (vb b) := by simp [bs, List.map_set]
theorem bs_append (l m : List UInt8) : bs (l ++ m) = bs l ++ bs m := by simp [bs]
theorem mkS_size (l : List UInt8) : (mkS l).size = l.length := by simp [mkS, ByteArray.size]
theorem mkS_data (l : List UInt8) : (mkS l).data.toList = l := by simp [mkS]
theorem mkS_toList (l : List UInt8) : (mkS l).toList = l := by simp [mkS, Lib.toList_data]
theorem mkS_append (l m : List UInt8) : mkS l ++ mkS m = mkS (l ++ m) := by
 apply ByteArray.ext; apply Array.ext'; simp [mkS]
theorem mkS_of (s : ByteArray) : ∃ l, s = mkS l := ⟨s.data.toList, by simp [mkS]⟩
structure Kept (F : List Nat) (w0 w : World) : Prop where
 os : w.os = w0.os
 tape : w.tape = w0.tape
 output : w.output = w0.output
 size : w0.heap.size ≤ w.heap.size
 block : ∀ k, k < w0.heap.size → k ∉ F → w.heap[k]? = w0.heap[k]?
theorem Kept.refl (F : List Nat) (w : World) : Kept F w w := ⟨rfl, rfl, rfl, Nat.le_refl _, fun _ _ _ => rfl⟩
theorem Kept.below {w0 w : World} (h : Kept [] w0 w) : Below w0.heap.size w0 w := ⟨h.os, h.tape, h.output, h.size, fun k hk => h.block k hk (by simp)⟩
theorem Kept.of_below {w0 w : World} (h : Below w0.heap.size w0 w) (F : List Nat) : Kept F w0 w := ⟨h.os, h.tape, h.output, h.size, fun k hk _ => h.block k hk⟩
theorem Kept.trans {F G : List Nat} {a b c : World} (h : Kept F a b) (k : Kept G b c) (hG : ∀ x ∈ G, x ∈ F ∨ a.heap.size ≤ x) : Kept F a c :=
 ⟨k.os.trans h.os, k.tape.trans h.tape, k.output.trans h.output, Nat.le_trans h.size k.size, fun i hi hF => (k.block i (Nat.lt_of_lt_of_le hi h.size) fun hx => by
  rcases hG i hx with h1 | h1
  ·exact hF h1
  ·omega).trans (h.block i hi hF)⟩
theorem Kept.mono {F G : List Nat} {a b : World} (h : Kept F a b) (hG : ∀ x ∈ F, x ∈ G) : Kept G a b := ⟨h.os, h.tape, h.output, h.size, fun k hk hn => h.block k hk fun hx => hn (hG k hx)⟩
theorem Kept.grown {w w' : World} {row : Option Nat} (h : w.grownBy w' row) : Kept row.toList w w' :=
 ⟨h.os, h.tape, h.output, h.size, fun k hk hn => h.block k hk fun e => hn (by rw [← e]; simp)⟩
theorem Kept.drew {F : List Nat} {a w : World} (h : Kept F a w) : Kept F a w.drew := ⟨h.os, h.tape, h.output, h.size, h.block⟩
theorem Kept.alloc (w : World) (o : Obj) : Kept [] w (w.alloc o) := Kept.of_below ((Below.refl _ _).alloc (Nat.le_refl _) o) _
inductive Chunk where
 | row (g : Nat) (cs : List Value)
 | sl (size : Nat) (v : Value) (n : Nat) (xs : List Value)
 | blk (g : Nat) (o : Obj)
 | obj (fp : List Nat) (p : World → Prop)
def Chunk.fp : Chunk → List Nat
 | .row g _ => [g]
 | .sl _ v _ _ => v.ownBlock.toList
 | .blk g _ => [g]
 | .obj f _ => f
def Chunk.ok (w : World) : Chunk → Prop
 | .row g cs => g < w.heap.size ∧ w.rangeAt g 0 cs ∧ w.there g 0 cs.length
 | .sl size v n xs => Own w 0 size v n xs
 | .blk g o => w.heap[g]? = some o
 | .obj f p => (∀ k ∈ f, k < w.heap.size) ∧ p w ∧ ∀ w' : World, w.heap.size ≤ w'.heap.size → (∀ k ∈ f, w'.heap[k]? = w.heap[k]?) → p w'
theorem Chunk.ok.lt {w : World} {c : Chunk} (h : c.ok w) : ∀ k ∈ c.fp, k < w.heap.size := by
 intro k hk
 cases c with
 | row g cs => simp [Chunk.fp] at hk; subst hk; exact h.1
 | sl size v n xs =>
  simp only [Chunk.fp, Option.mem_toList] at hk
  exact (Own.base_le h hk).2
 | blk g o => simp [Chunk.fp] at hk; subst hk; exact (Array.getElem?_eq_some_iff.1 h).1
 | obj f p => exact h.1 k hk
theorem Chunk.ok.stay {w w' : World} {c : Chunk} (h : c.ok w) (hs : w.heap.size ≤ w'.heap.size) (hb : ∀ k ∈ c.fp, w'.heap[k]? = w.heap[k]?) : c.ok w' := by
 cases c with
 | row g cs =>
  have e := hb g (by simp [Chunk.fp])
  exact ⟨Nat.lt_of_lt_of_le h.1 hs, rangeAt_of_block h.2.1 e, there_of_block h.2.2 e⟩
 | sl size v n xs =>
  refine ⟨h.1, h.2.imp id ?_⟩
  rintro ⟨g, o, cap, rfl, hb', hlt, hn, hc, hr, ht⟩
  have e := hb g (by simp [Chunk.fp, Value.ownBlock])
  exact ⟨g, o, cap, rfl, hb', Nat.lt_of_lt_of_le hlt hs, hn, hc, rangeAt_of_block hr e, there_of_block ht e⟩
 | blk g o => exact (hb g (by simp [Chunk.fp])).trans h
 | obj f p =>
  refine ⟨fun k hk => Nat.lt_of_lt_of_le (h.1 k hk) hs, h.2.2 w' hs hb, fun w'' hs' hb' => h.2.2 w'' (Nat.le_trans hs hs') fun k hk => (hb' k hk).trans (hb k hk)⟩
structure Upd (w : World) (c : Chunk) (w' : World) (c' : Chunk) : Prop where
 kept : Kept c.fp w w'
 ok : c'.ok w'
 fp : ∀ k ∈ c'.fp, k ∈ c.fp ∨ w.heap.size ≤ k
structure Mem (F : List Nat) (w0 w : World) (L : List Chunk) : Prop where
 kept : Kept F w0 w
 ok : ∀ (i : Nat) (c : Chunk), L[i]? = some c → c.ok w
 own : ∀ (i : Nat) (c : Chunk), L[i]? = some c → ∀ k ∈ c.fp, k ∈ F ∨ w0.heap.size ≤ k
 nd : ∀ (i j : Nat) (c d : Chunk), i ≠ j → L[i]? = some c → L[j]? = some d → ∀ k ∈ c.fp, k ∉ d.fp
theorem Mem.start (F : List Nat) (w : World) : Mem F w w [] := ⟨Kept.refl _ _, by simp, by simp, by simp⟩
theorem Mem.start1 {w : World} {c : Chunk} (h : c.ok w) : Mem c.fp w w [c] := by
 refine ⟨Kept.refl _ _, ?_, ?_, ?_⟩
 ·intro i d hd; cases i <;> simp at hd; subst hd; exact h
 ·intro i d hd; cases i <;> simp at hd; subst hd; exact fun k hk => .inl hk
 ·intro i j c d hij hi hj; cases i <;> cases j <;> simp at hi hj hij
theorem Mem.upd {F : List Nat} {w0 w w' : World} {L : List Chunk} (M : Mem F w0 w L) (i : Nat) {c c' : Chunk} (hi : L[i]? = some c) (U : Upd w c w' c') : Mem F w0 w' (L.set i c') := by
 have hil : i < L.length := (List.getElem?_eq_some_iff.1 hi).1
 have key : ∀ (j : Nat) (d : Chunk), j ≠ i → L[j]? = some d → d.ok w' := fun j d hj hd => by
  refine (M.ok j d hd).stay U.kept.size fun k hk => U.kept.block k ((M.ok j d hd).lt k hk) fun hx => M.nd j i d c hj hd hi k hk hx
 refine ⟨M.kept.trans U.kept fun x hx => M.own i c hi x hx, ?_, ?_, ?_⟩
 ·intro j d hd
  by_cases e : j = i
  ·subst e; rw [List.getElem?_set_self hil] at hd; cases hd; exact U.ok
  ·rw [List.getElem?_set_ne (Ne.symm e)] at hd; exact key j d e hd
 ·intro j d hd k hk
  by_cases e : j = i
  ·subst e; rw [List.getElem?_set_self hil] at hd; cases hd
   rcases U.fp k hk with h | h
   ·exact M.own j c hi k h
   ·exact .inr (Nat.le_trans M.kept.size h)
  ·rw [List.getElem?_set_ne (Ne.symm e)] at hd; exact M.own j d hd k hk
 ·intro a b x y hab ha hb k hk hk2
  by_cases e : a = i
  ·subst e; rw [List.getElem?_set_self hil] at ha; cases ha
   rw [List.getElem?_set_ne hab] at hb
   rcases U.fp k hk with h | h
   ·exact M.nd a b c y hab hi hb k h hk2
   ·have := (M.ok b y hb).lt k hk2; omega
  ·rw [List.getElem?_set_ne (Ne.symm e)] at ha
   by_cases e2 : b = i
   ·subst e2; rw [List.getElem?_set_self hil] at hb; cases hb
    rcases U.fp k hk2 with h | h
    ·exact M.nd a b x c hab ha hi k hk h
    ·have := (M.ok a x ha).lt k hk; omega
   ·rw [List.getElem?_set_ne (Ne.symm e2)] at hb
    exact M.nd a b x y hab ha hb k hk hk2
theorem Mem.add {F : List Nat} {w0 w w' : World} {L : List Chunk} (M : Mem F w0 w L) (c : Chunk) (hk : Kept [] w w') (hok : c.ok w') (hfp : ∀ k ∈ c.fp, w.heap.size ≤ k) : Mem F w0 w' (c :: L) := by
 have key : ∀ (j : Nat) (d : Chunk), L[j]? = some d → d.ok w' := fun j d hd => (M.ok j d hd).stay hk.size fun k hk' => hk.block k ((M.ok j d hd).lt k hk') (by simp)
 refine ⟨M.kept.trans hk (by simp), ?_, ?_, ?_⟩
 ·intro j d hd
  cases j with
  | zero => simp at hd; subst hd; exact hok
  | succ j => simp at hd; exact key j d hd
 ·intro j d hd k hk'
  cases j with
  | zero => simp at hd; subst hd; exact .inr (Nat.le_trans M.kept.size (hfp k hk'))
  | succ j => simp at hd; exact M.own j d hd k hk'
 ·intro a b x y hab ha hb k hk1 hk2
  cases a with
  | zero =>
   simp at ha; subst ha
   cases b with
   | zero => exact hab rfl
   | succ b => simp at hb; have := (M.ok b y hb).lt k hk2; have := hfp k hk1; omega
  | succ a =>
   simp at ha
   cases b with
   | zero => simp at hb; subst hb; have := (M.ok a x ha).lt k hk1; have := hfp k hk2; omega
   | succ b => simp at hb; exact M.nd a b x y yE ha hb k hk1 hk2
theorem Mem.call {F : List Nat} {w0 w w' : World} {L : List Chunk} (M : Mem F w0 w L) (h : Below w.heap.size w w') : Mem F w0 w' L := by
 have hk := Kept.of_below h []
 exact ⟨M.kept.trans hk (by simp), fun j d hd => (M.ok j d hd).stay hk.size fun k hk' => hk.block k ((M.ok j d hd).lt k hk') (by simp), M.own, M.nd⟩
theorem Mem.drew {F : List Nat} {w0 w : World} {L : List Chunk} (M : Mem F w0 w L) : Mem F w0 w.drew L := ⟨M.kept.drew, fun i c h => (M.ok i c h).stay (Nat.le_refl _) (fun _ _ => rfl), M.own, M.nd⟩
theorem Mem.pick {F : List Nat} {w0 w : World} {L : List Chunk} (M : Mem F w0 w L) (L' : List Chunk) (f : Nat → Nat) (hf : ∀ i j, i < L'.length → j < L'.length → f i = f j → i = j) (h : ∀ (i : Nat) (c : Chunk), L'[i]? = some c → L[f i]? = some c) : Mem F w0 w L' :=
 ⟨M.kept, fun i c hc => M.ok (f i) c (h i c hc), fun i c hc => M.own (f i) c (h i c hc), fun i j c d hij hi hj => M.nd (f i) (f j) c d (fun e => hij (hf i j (List.getElem?_eq_some_iff.1 hi).1 (List.getElem?_eq_some_iff.1 hj).1 e)) (h i c hi) (h j d hj)⟩
theorem Mem.tail {F : List Nat} {w0 w : World} {c : Chunk} {L : List Chunk} (M : Mem F w0 w (c :: L)) : Mem F w0 w L := M.pick L (· + 1) (fun _ _ _ _ h => by simpa using h) (fun i c h => by simpa using h)
theorem Mem.below {w0 w : World} {L : List Chunk} (M : Mem [] w0 w L) : Below w0.heap.size w0 w := M.kept.below
theorem Mem.nil {F : List Nat} {w0 w : World} {L : List Chunk} (M : Mem F w0 w L) (size : Nat) : Mem F w0 w (.sl size (.slice none 0 0) 0 [] :: L) :=
 M.add _ (Kept.refl _ _) (Own_nil _ _ _) (by simp [Chunk.fp, Value.ownBlock])
theorem Mem.sees {F : List Nat} {w0 w : World} {L : List Chunk} (M : Mem F w0 w L) {size : Nat} {v : Value} {n : Nat} {xs : List Value} (S : Sees w0 size v n xs) (hF : ∀ k, v.ownBlock = some k → k ∉ F) : Sees w size v n xs := by
 refine ⟨S.1, S.2.imp id ?_⟩
 rintro ⟨g, o, cap, rfl, hlt, hn, hc, hr⟩
 have e := M.kept.block g hlt (hF g rfl)
 exact ⟨g, o, cap, rfl, Nat.lt_of_lt_of_le hlt M.kept.size, hn, hc, rangeAt_of_block hr e⟩
theorem Mem.upd1 {w0 w : World} {c c' : Chunk} {L : List Chunk} (M : Mem c.fp w0 w L) (i : Nat) (hi : L[i]? = some c') : Upd w0 c w c' :=
 ⟨M.kept, M.ok i c' hi, M.own i c' hi⟩
/-! ### The operations -/
def scalarT (P : Program) (t : TypeId) : Bool := match P.underlying t with | some d => !d.isRow | none => false
def rowT (P : Program) (t : TypeId) : Bool := match P.underlying t with | some d => d.isRow | none => false
theorem run_loadVar_scalar {P : Program} {t : TypeId} (h : scalarT P t = true) (w : World) (b o : Nat) (v : Value) (hv : w.cell? ⟨b, o, none⟩ = some v) : (loadVar t ⟨b, o, none⟩).run P w = .ok v w := by
 unfold scalarT at h
 cases hu : P.underlying t with
 | none => simp [hu] at h
 | some d =>
  have hagg : (isAgg t).run P w = .ok false w := by
   unfold isAgg
   rw [Sem.run_bind, run_underlying hu w]
   cases d <;> simp_all [TypeDesc.isRow]
  simp [loadVar, Sem.run_bind, hagg, Go.load, Sem.run, hv]
theorem wpW {P : Program} {ops : Array Oper} {rest : List Oper} {o : Oper} {a : Act} {w : World} {Q : Exit → Act → World → Prop} (hw : Region.wanted o (yielded ops a.tmps) = true)
  (h : ∀ K : Act → World → Prop, (∀ a w, wpList P ops Q rest a w → K a w) → o.wp P a w K Q) : wpList P ops Q (o :: rest) a w :=
 wpList_want hw (h _ fun _ _ h => h)
section
variable {P : Program} {ops : Array Oper} {rest : List Oper} {o : Oper} {a : Act} {w w0 : World} {Q : Exit → Act → World → Prop} {F : List Nat} {L : List Chunk}
theorem Mem.cellAt (M : Mem F w0 w L) (i : Nat) {g : Nat} {cs : List Value} (hi : L[i]? = some (.row g cs)) {off : Nat} {v : Value} (hv : cs[off]? = some v) : w.cell? ⟨g, off, none⟩ = some v := by
 have := (M.ok i _ hi).2.1 off v hv
 rwa [Nat.zero_add] at this
theorem w_load (M : Mem F w0 w L) (i : Nat) (t : TypeId) (x : Operand) (ho : o.op = .load t x) {g off : Nat} {cs : List Value} (hi : L[i]? = some (.row g cs)) (hx : a.eval x = .pointer (some ⟨g, off, none⟩)) (hw : Region.wanted o (yielded ops a.tmps) = true)
  (ht : scalarT P t = true) {v : Value} (hv : cs[off]? = some v) (h : wpList P ops Q rest (a.put o.dst v) w) : wpList P ops Q (o :: rest) a w :=
 wpW hw fun _ hK => by
  unfold Oper.wp execOp
  simp only [ho, hx, Instr.loadAt, Instr.sureAddr, Sem.run_bind, Sem.run_pure, Result.andThen_ok, run_loadVar_scalar ht w g off v (M.cellAt i hi hv)]
  exact hK _ _ h
theorem w_loadA (M : Mem F w0 w L) (i : Nat) (t : TypeId) (x : Operand) (ho : o.op = .load t x) {g off : Nat} {cs : List Value} (hi : L[i]? = some (.row g cs)) (hx : a.eval x = .pointer (some ⟨g, off, none⟩)) (hw : Region.wanted o (yielded ops a.tmps) = true)
  (ht : rowT P t = true) (pre mid post : List Value) (hcs : cs = pre ++ (mid ++ post)) (hpre : pre.length = off) (hn : (P.info? t).map (·.size) = some mid.length) (h : wpList P ops Q rest (a.put o.dst (.agg mid.toArray)) w) : wpList P ops Q (o :: rest) a w :=
 wpW hw fun _ hK => by
  unfold rowT at ht
  cases hu : P.underlying t with
  | none => simp [hu] at ht
  | some d =>
   simp only [hu] at ht
   refine wp_load_mid t x ho g off hx mid d ?_ hu ht hn (hK _ _ h)
   intro j v hv
   refine M.cellAt i hi ?_
   have hj : j < mid.length := (List.getElem?_eq_some_iff.1 hv).1
   rw [hcs, ← hpre, List.getElem?_append_right yE, Nat.add_sub_cancel_left, List.getElem?_append_left hj]; exact hv
theorem w_loadR (M : Mem F w0 w L) (i : Nat) (t : TypeId) (x : Operand) (ho : o.op = .load t x) {g : Nat} {cs : List Value} (hi : L[i]? = some (.row g cs)) (hx : a.eval x = .pointer (some ⟨g, 0, none⟩)) (hw : Region.wanted o (yielded ops a.tmps) = true)
  (ht : rowT P t = true) (hn : (P.info? t).map (·.size) = some cs.length) (h : wpList P ops Q rest (a.put o.dst (.agg cs.toArray)) w) : wpList P ops Q (o :: rest) a w :=
 w_loadA M i t x ho hi hx hw ht [] cs [] (by simp) rfl hn h
theorem upd_setCells {g : Nat} {cs : List Value} (h : (Chunk.row g cs).ok w) (pre mid post new : List Value) (hcs : cs = pre ++ (mid ++ post)) (hnew : new.length = mid.length) :
  Upd w (.row g cs) (w.setCells g pre.length new) (.row g (pre ++ (new ++ post))) := by
 refine ⟨Kept.grown (grownBy_setCells w g pre.length new), ⟨by rw [size_setCells]; exact h.1, ?_, ?_⟩, fun k hk => .inl hk⟩
 ·have hth := h.2.2
  rw [hcs] at hth
  have hr := h.2.1
  rw [hcs] at hr
  refine rangeAt_append ?_ (rangeAt_append ?_ ?_)
  ·refine World.rangeAt_setCells_apart ?_ _ _ _ (.inr (.inl yE))
   have := rangeAt_take hr pre.length
   rwa [List.take_left'  rfl] at this
  ·rw [Nat.zero_add]
   refine World.rangeAt_setCells_same _ _ _ _ ?_
   have := there_drop hth pre.length
   rw [Nat.zero_add] at this
   exact there_mono this (by simp; omega)
  ·refine World.rangeAt_setCells_apart ?_ _ _ _ (.inr (.inr yE))
   have := rangeAt_drop hr (pre.length + mid.length)
   rw [← List.append_assoc, List.drop_left' (by simp)] at this
   rw [hnew, Nat.add_assoc]; exact this
 ·have := h.2.2
  rw [hcs] at this
  refine World.there_setCells (there_mono this ?_) _ _ _
  simp; omega
theorem setCells_one (w : World) (g o : Nat) (v : Value) : w.setCells g o [v] = w.setCell ⟨g, o, none⟩ v := by simp [World.setCells]
theorem upd_setCell {g off : Nat} {cs : List Value} (h : (Chunk.row g cs).ok w) (hlt : off < cs.length) (v : Value) : Upd w (.row g cs) (w.setCell ⟨g, off, none⟩ v) (.row g (cs.set off v)) := by
 have := upd_setCells h (cs.take off) [cs[off]] (cs.drop (off + 1)) [v] (by simp) rfl
 rw [List.length_take, Nat.min_eq_left yE, setCells_one] at this
 rwa [List.set_eq_take_append_cons_drop, if_pos hlt]
theorem w_store (M : Mem F w0 w L) (i : Nat) (t : TypeId) (x y : Operand) (ho : o.op = .store t x y) {g off : Nat} {cs : List Value} (hi : L[i]? = some (.row g cs)) (hx : a.eval x = .pointer (some ⟨g, off, none⟩)) (hw : Region.wanted o (yielded ops a.tmps) = true)
  {v : Value} (hy : a.eval y = v) (h1 : v.oneCell' = true) (hc : v.cells = #[v]) (hn : (P.info? t).map (·.size) = some 1) (hlt : off < cs.length)
  (h : ∀ w' : World, Mem F w0 w' (L.set i (.row g (cs.set off v))) → wpList P ops Q rest (a.put o.dst undef) w') : wpList P ops Q (o :: rest) a w :=
 wpW hw fun _ hK => by
  have hok := M.ok i _ hi
  have hst := run_storeCells_mid (P := P) (w := w) (g := g) (o := off) [v] (by have := there_drop hok.2.2 off; rw [Nat.zero_add] at this; exact there_mono this (by simp; omega)) (by simpa using h1)
  cases hq : P.info? t with
  | none => simp [hq] at hn
  | some inf =>
   have hs : inf.size = 1 := by simpa [hq] using hn
   unfold Oper.wp execOp
   simp only [ho, hx, hy, Instr.storeAt, Instr.sureAddr, storeVar, Sem.run_bind, Sem.run_pure, Result.andThen_ok, sizeOf, typeInfo, run_program, hq, hs, hc]
   simp only [List.size_toArray, List.length_cons, List.length_nil, Nat.zero_add, ne_eq, not_true_eq_false, if_false, hst, Result.andThen_ok]
   rw [setCells_one]
   exact hK _ _ (h _ (M.upd i hi (upd_setCell hok hlt v)))
theorem w_storeA (M : Mem F w0 w L) (i : Nat) (t : TypeId) (x y : Operand) (ho : o.op = .store t x y) {g off : Nat} {cs : List Value} (hi : L[i]? = some (.row g cs)) (hx : a.eval x = .pointer (some ⟨g, off, none⟩)) (hw : Region.wanted o (yielded ops a.tmps) = true)
  {C : Array Value} (new : List Value) (hy : a.eval y = .agg C) (hC : C = new.toArray) (hn : (P.info? t).map (·.size) = some new.length) (h1 : ∀ v ∈ new, v.oneCell' = true) (pre mid post : List Value) (hcs : cs = pre ++ (mid ++ post)) (hpre : pre.length = off) (hmid : new.length = mid.length)
  (h : ∀ w' : World, Mem F w0 w' (L.set i (.row g (pre ++ (new ++ post)))) → wpList P ops Q rest (a.put o.dst undef) w') : wpList P ops Q (o :: rest) a w :=
 wpW hw fun _ hK => by
  subst hC
  have hok := M.ok i _ hi
  have hth := hok.2.2
  rw [hcs] at hth
  refine wp_store_mid t x y ho g off new.toArray hx hy ?_ (by simpa using hn) (all_oneCell_toArray h1) (hK _ _ (h _ ?_))
  ·have := there_drop hth off
   rw [Nat.zero_add] at this
   exact there_mono this (by simp; omega)
  ·have := M.upd i hi (upd_setCells hok pre mid post new hcs hmid)
   rw [hpre] at this
   simpa using this
theorem w_storeR (M : Mem F w0 w L) (i : Nat) (t : TypeId) (x y : Operand) (ho : o.op = .store t x y) {g : Nat} {cs : List Value} (hi : L[i]? = some (.row g cs)) (hx : a.eval x = .pointer (some ⟨g, 0, none⟩)) (hw : Region.wanted o (yielded ops a.tmps) = true)
  {C : Array Value} (new : List Value) (hy : a.eval y = .agg C) (hC : C = new.toArray) (hn : (P.info? t).map (·.size) = some new.length) (h1 : ∀ v ∈ new, v.oneCell' = true) (hl : new.length = cs.length)
  (h : ∀ w' : World, Mem F w0 w' (L.set i (.row g new)) → wpList P ops Q rest (a.put o.dst undef) w') : wpList P ops Q (o :: rest) a w :=
 w_storeA M i t x y ho hi hx hw new hy hC hn h1 [] cs [] (by simp) rfl hl (fun w' M' => h w' (by simpa using M'))
theorem new_row (w : World) (C : Array Value) (t : TypeId) : (Chunk.row w.heap.size C.toList).ok (w.alloc (.cells C t)) :=
 ⟨by simp, rangeAt_new w C t (0, 0), there_new w C t _ (by simp)⟩
theorem Mem.alloc (M : Mem F w0 w L) (C : Array Value) (t : TypeId) : Mem F w0 (w.alloc (.cells C t)) (.row w.heap.size C.toList :: L) :=
 M.add _ (Kept.alloc _ _) (new_row w C t) (by simp [Chunk.fp])
theorem w_alloc (M : Mem F w0 w L) (t : TypeId) (ho : o.op = .alloc t) (hw : Region.wanted o (yielded ops a.tmps) = true) (z : Value) (cs : List Value) (hz : (P.info? t).bind (·.zero) = some z) (hc : z.cells = cs.toArray)
  (h : ∀ (g : Nat) (w' : World), Mem F w0 w' (.row g cs :: L) → wpList P ops Q rest (a.put o.dst (.pointer (some ⟨g, 0, none⟩))) w') : wpList P ops Q (o :: rest) a w :=
 wpW hw fun _ hK => by
  cases hq : P.info? t with
  | none => simp [hq] at hz
  | some inf =>
   have hzz : inf.zero = some z := by simpa [hq] using hz
   have hr : (Instr.alloc t true (.tuple #[])).run P w = .ok (.pointer (some ⟨w.heap.size, 0, none⟩)) (w.alloc (.cells z.cells t)) := by
    simp only [Instr.alloc, zeroValue, typeInfo, Sem.run_bind, run_program, hq, Sem.run_pure, Result.andThen_ok, hzz]; rfl
   unfold Oper.wp execOp
   simp only [ho, Sem.run_bind, hr, Result.andThen_ok]
   exact hK _ _ (h _ _ (by have := M.alloc z.cells t; rw [hc] at this ⊢; exact this))
theorem w_box (M : Mem F w0 w L) (t : TypeId) (x : Operand) (ho : o.op = .box t x) (hw : Region.wanted o (yielded ops a.tmps) = true) (v : Value) (hx : a.eval x = v) (cs : List Value) (hc : v.cells = cs.toArray)
  (h : ∀ (g : Nat) (w' : World), Mem F w0 w' (.row g cs :: L) → wpList P ops Q rest (a.put o.dst (.pointer (some ⟨g, 0, none⟩))) w') : wpList P ops Q (o :: rest) a w :=
 wpW hw fun _ hK => by
  have hr : (Instr.box t v).run P w = .ok (.pointer (some ⟨w.heap.size, 0, none⟩)) (w.alloc (.cells v.cells t)) := rfl
  unfold Oper.wp execOp
  simp only [ho, hx, Sem.run_bind, hr, Result.andThen_ok]
  exact hK _ _ (h _ _ (by have := M.alloc v.cells t; rw [hc] at this ⊢; exact this))
theorem w_buildSlice (M : Mem F w0 w L) {t e : TypeId} {size bytes : Nat} (T : SliceT P t e size bytes) (len : Nat) (parts : Array (Nat × Operand)) (ho : o.op = .buildSlice t len parts) (hw : Region.wanted o (yielded ops a.tmps) = true) (hlen : 0 < len ∧ len * size ≤ 16777216) (z : Value) (hz : (P.info? e).bind (·.zero) = some z) (cs : List Value)
  (hf : Instr.fill (fun i => some (i * size, size)) ((Array.range (len * size)).map (z.cells[· % z.cells.size]!)) (parts.map fun (i, x) => (i, a.eval x)).toList = some cs.toArray)
  (h : ∀ (g : Nat) (w' : World), Mem F w0 w' (.row g cs :: L) → wpList P ops Q rest (a.put o.dst (.slice (some ⟨g, 0, none⟩) len len)) w') : wpList P ops Q (o :: rest) a w :=
 wpW hw fun _ hK => by
  obtain ⟨ht, ⟨i, z', hi, hz', hsize, hby, hzs⟩, hsz⟩ := T
  have ez : z' = z := by simpa [hi, hz'] using hz
  subst ez hsize
  have hr := run_buildSlice (P := P) w t e len _ cs.toArray i z' ht hi hz' yE (by have := Nat.mul_pos hlen.1 hsz; omega) hf
  unfold Oper.wp execOp
  simp only [ho, Sem.run_bind, hr, Result.andThen_ok]
  exact hK _ _ (h _ _ (M.alloc cs.toArray e))
theorem foldl_set (l : List Value) : ∀ (k : Nat) (C : Array Value), k + l.length ≤ C.size → ((l.zipIdx k).foldl (fun cs x => cs.setIfInBounds x.2 x.1) C).toList = C.toList.take k ++ l ++ C.toList.drop (k + l.length) := by
 induction l with
 | nil => intro k C h; simp
 | cons v r ih =>
  intro k C h
  simp only [List.length_cons] at h
  rw [List.zipIdx_cons, List.foldl_cons, ih (k + 1) _ (by simp; omega)]
  have hk : k < C.toList.length := by simpa using (by omega : k < C.size)
  rw [Array.toList_setIfInBounds, List.take_set, List.take_succ_eq_append_getElem hk, List.drop_set_of_lt yE, List.set_append_right _ _ (by simp; omega)]
  simp only [List.length_take, Nat.min_eq_left (Nat.le_of_lt hk), Nat.sub_self, List.set_cons_zero, List.length_cons]
  rw [show k + 1 + r.length = k + (r.length + 1) by omega]
  simp
theorem fill_one (size : Nat) (C : Array Value) (hC : C.size = size) (v : Value) (hv : v.cells.size = size) : Instr.fill (fun i => some (i * size, size)) C [(0, v)] = some v.cells := by
 have e := foldl_set v.cells.toList 0 C (by simp [hC, hv])
 have e2 : (v.cells.zipIdx.foldl (fun cs x => cs.setIfInBounds (0 * size + x.2) x.1) C) = v.cells := by
  apply Array.ext'
  rw [← Array.foldl_toList]
  simp only [Nat.zero_mul, Nat.zero_add, Array.toList_zipIdx]
  rw [e]
  simp [hv, hC]
 simp only [Instr.fill, Nat.zero_mul, Nat.zero_add, hv, hC]
 simp only [Nat.zero_mul, Nat.zero_add] at e2
 have hz : v.cells.size = v.cells.zipIdx.size := by simp
 simp
 rw [hz]
 exact e2
theorem w_buildSlice1 (M : Mem F w0 w L) {t e : TypeId} {size bytes : Nat} (T : SliceT P t e size bytes) (hsm : size ≤ 1000) (x : Operand) (ho : o.op = .buildSlice t 1 #[(0, x)]) (hw : Region.wanted o (yielded ops a.tmps) = true) {v : Value} (hx : a.eval x = v) (cs : List Value) (hc : v.cells = cs.toArray) (hcs : cs.length = size)
  (h : ∀ (g : Nat) (w' : World), Mem F w0 w' (.row g cs :: L) → wpList P ops Q rest (a.put o.dst (.slice (some ⟨g, 0, none⟩) 1 1)) w') : wpList P ops Q (o :: rest) a w := by
 have T' := T
 obtain ⟨ht, ⟨i, z', hi, hz', hsize, hby, hzs⟩, hsz⟩ := T'
 refine w_buildSlice M T 1 _ ho hw ⟨by omega, by omega⟩ z' (by simp [hi, hz']) cs ?_ h
 have := fill_one size ((Array.range (1 * size)).map (z'.cells[· % z'.cells.size]!)) (by simp) v (by rw [hc]; simpa using hcs)
 rw [hc] at this
 subst hx
 simpa using this
theorem Own.form0 {base size : Nat} {v : Value} {n : Nat} {xs : List Value} (h : Own w base size v n xs) : ∃ a cap, v = .slice a n cap := by
 obtain ⟨a, c, e, _⟩ := h.sees.form; exact ⟨a, c, e⟩
theorem w_append (M : Mem F w0 w L) (i : Nat) {t e : TypeId} {size bytes : Nat} (T : SliceT P t e size bytes) (s x : Operand) (u : TypeId) (ho : o.op = .call { callee := .builtin .append, args := #[s, x], argTypes := #[t, u] }) (hu : P.underlying u = some .string ∨ ∃ e', P.underlying u = some (.slice e'))
  (hw : Region.wanted o (yielded ops a.tmps) = true) {v : Value} {n : Nat} {xs : List Value} (hi : L[i]? = some (.sl size v n xs)) (hs : a.eval s = v) {xv : Value} (hx : a.eval x = xv) (m : Nat) (news : List Value) (hsrc : Src P w size xv m news)
  (h63 : n + m ≤ maxLen) (hbytes : (n + m) * bytes ≤ 140737488355328)
  (h : ∀ (p : Option Addr) (cap : Nat) (w' : World), Mem F w0 w' (L.set i (.sl size (.slice p (n + m) cap) (n + m) (xs ++ news))) → wpList P ops Q rest (a.put o.dst (.slice p (n + m) cap)) w') : wpList P ops Q (o :: rest) a w :=
 wpW hw fun _ hK => by
  refine wp_append T s x u ho hu 0 v n xs hs (M.ok i _ hi) xv m news hx hsrc h63 hbytes (Nat.zero_le _) ?_
  intro v' w' hown hg hb _
  obtain ⟨p, cap, rfl⟩ := hown.form0
  refine hK _ _ (h p cap w' (M.upd i hi ⟨Kept.grown hg, hown, fun k hk => ?_⟩))
  simp only [Chunk.fp, Option.mem_toList] at hk ⊢
  rcases hb with hb | hb
  ·exact .inl (hb ▸ hk)
  ·rw [hb] at hk; cases hk; exact .inr (Nat.le_refl _)
theorem w_append_new {g : Nat} {news : List Value} (M : Mem F w0 w (.row g news :: L)) (i : Nat) {t e : TypeId} {size bytes : Nat} (T : SliceT P t e size bytes) (s x : Operand) (ho : o.op = .call { callee := .builtin .append, args := #[s, x], argTypes := #[t, t] })
  (hw : Region.wanted o (yielded ops a.tmps) = true) {v : Value} {n : Nat} {xs : List Value} (hi : L[i]? = some (.sl size v n xs)) (hs : a.eval s = v) {m : Nat} (hx : a.eval x = .slice (some ⟨g, 0, none⟩) m m) (hm : news.length = m * size) (h1 : ∀ q ∈ news, q.oneCell' = true)
  (hmm : m ≤ 1000000) (h63 : n + m ≤ maxLen) (hbytes : (n + m) * bytes ≤ 140737488355328)
  (h : ∀ (p : Option Addr) (cap : Nat) (w' : World), Mem F w0 w' (L.set i (.sl size (.slice p (n + m) cap) (n + m) (xs ++ news))) → wpList P ops Q rest (a.put o.dst (.slice p (n + m) cap)) w') : wpList P ops Q (o :: rest) a w := by
 have hok := M.ok 0 _ rfl
 refine w_append M.tail i T s x t ho (.inr ⟨e, T.ht⟩) hw hi hs hx m news (Src_of_sees ⟨hm, .inr ⟨g, 0, m, rfl, hok.1, Nat.le_refl _, by simp only [maxLen]; omega, hok.2.1⟩⟩ h1) h63 hbytes h
theorem w_string (M : Mem F w0 w L) (i : Nat) (src dst e : TypeId) (x : Operand) (ho : o.op = .convert src dst x) (hw : Region.wanted o (yielded ops a.tmps) = true) {v : Value} {l : List UInt8} {n : Nat} (hi : L[i]? = some (.sl 1 v n (bs l))) (hn : n = l.length) (hx : a.eval x = v)
  (hs : P.underlying src = some (.slice e)) (he : P.underlying e = some (.int .u8)) (hd : P.underlying dst = some .string)
  (h : wpList P ops Q rest (a.put o.dst (.string (mkS l))) w) : wpList P ops Q (o :: rest) a w :=
 wpW hw fun _ hK => by
  subst hn
  have hr := SeesB.run_string (P := P) (l := l) (Own.sees (M.ok i _ hi)) src dst e hs he hd w (grownBy_refl _ _)
  unfold Oper.wp execOp
  simp only [ho, hx, Sem.run_bind, hr, Result.andThen_ok]
  exact hK _ _ h
theorem row_sees {g off n cap : Nat} {l : List UInt8} (h : (Chunk.row g (bs l)).ok w) (ho : off + n ≤ l.length) (hc : n ≤ cap) (hm : cap ≤ maxLen) : SeesB w (.slice (some ⟨g, off, none⟩) n cap) ((l.drop off).take n) := by
 have hl : ((l.drop off).take n).length = n := by simp; omega
 refine ⟨by simp, .inr ⟨g, off, cap, by rw [hl], h.1, by omega, hm, ?_⟩⟩
 have := rangeAt_take (rangeAt_drop h.2.1 off) n
 rw [Nat.zero_add] at this
 rwa [List.map_take, List.map_drop]
theorem w_stringR (M : Mem F w0 w L) (i : Nat) (src dst e : TypeId) (x : Operand) (ho : o.op = .convert src dst x) (hw : Region.wanted o (yielded ops a.tmps) = true) {g : Nat} {l : List UInt8} (hi : L[i]? = some (.row g (bs l))) {off n cap : Nat} (hx : a.eval x = .slice (some ⟨g, off, none⟩) n cap)
  (hb : off + n ≤ l.length) (hc : n ≤ cap) (hm : cap ≤ maxLen) (hs : P.underlying src = some (.slice e)) (he : P.underlying e = some (.int .u8)) (hd : P.underlying dst = some .string)
  (h : wpList P ops Q rest (a.put o.dst (.string (mkS ((l.drop off).take n)))) w) : wpList P ops Q (o :: rest) a w :=
 wpW hw fun _ hK => by
  have hr := SeesB.run_string (P := P) (row_sees (M.ok i _ hi) hb hc hm) src dst e hs he hd w (grownBy_refl _ _)
  unfold Oper.wp execOp
  simp only [ho, hx, Sem.run_bind, hr, Result.andThen_ok]
  exact hK _ _ h
theorem w_stringW (M : Mem F w0 w L) (i : Nat) (src dst e : TypeId) (x : Operand) (ho : o.op = .convert src dst x) (hw : Region.wanted o (yielded ops a.tmps) = true) {g : Nat} {l : List UInt8} (hi : L[i]? = some (.row g (bs l))) {n : Nat} (hx : a.eval x = .slice (some ⟨g, 0, none⟩) n n)
  (hb : l.length = n) (hm : n ≤ maxLen) (hs : P.underlying src = some (.slice e)) (he : P.underlying e = some (.int .u8)) (hd : P.underlying dst = some .string)
  (h : wpList P ops Q rest (a.put o.dst (.string (mkS l))) w) : wpList P ops Q (o :: rest) a w :=
 w_stringR M i src dst e x ho hw hi hx yE (Nat.le_refl _) hm hs he hd (by rw [List.drop_zero, List.take_of_length_le yE]; exact h)
theorem w_copy (M : Mem F w0 w L) (i : Nat) {t e : TypeId} {size bytes : Nat} (T : SliceT P t e size bytes) (d x : Operand) (u : TypeId) (ho : o.op = .call { callee := .builtin .copy, args := #[d, x], argTypes := #[t, u] }) (hw : Region.wanted o (yielded ops a.tmps) = true)
  {g off dl dc : Nat} {cs : List Value} (hi : L[i]? = some (.row g cs)) (hd : a.eval d = .slice (some ⟨g, off, none⟩) dl dc) {xv : Value} (hx : a.eval x = xv) (m : Nat) (news : List Value) (hsrc : Src P w size xv m news)
  (k : Nat) (hk : k = Nat.min m dl) (hlen : off + k * size ≤ cs.length)
  (h : ∀ w' : World, Mem F w0 w' (L.set i (.row g (cs.take off ++ (news.take (k * size) ++ cs.drop (off + k * size))))) → wpList P ops Q rest (a.put o.dst (.int .i64 k)) w') : wpList P ops Q (o :: rest) a w :=
 wpW hw fun _ hK => by
  have hok := M.ok i _ hi
  have hth := there_drop hok.2.2 off
  rw [Nat.zero_add] at hth
  have hr := run_copy_any (P := P) (w := w) T u o.type g off dl dc xv m news hsrc k hk (there_mono hth yE)
  unfold Oper.wp execOp
  simp only [ho, resolve, invoke, builtin, Sem.run_bind, Sem.run_pure, Result.andThen_ok, List.map_toArray, List.map_cons, List.map_nil, hd, hx, hr]
  have hkm : k ≤ m := by rw [hk]; exact Nat.min_le_left _ _
  have hl : (news.take (k * size)).length = k * size := by
   rw [List.length_take, hsrc.1]; exact Nat.min_eq_left (Nat.mul_le_mul_right _ hkm)
  have U := upd_setCells hok (cs.take off) ((cs.drop off).take (k * size)) (cs.drop (off + k * size)) (news.take (k * size)) (by rw [← List.drop_drop, List.take_append_drop, List.take_append_drop]) (by rw [hl, List.length_take, List.length_drop, Nat.min_eq_left yE])
  rw [List.length_take, Nat.min_eq_left yE] at U
  exact hK _ _ (h _ (M.upd i hi U))
theorem w_guard {dst : Option Tmp} {op : Op} {ty : TypeId} {pos : String} {after : Array Edge} {j : Nat} {want b : Bool} (hb : yielded ops a.tmps j = some b)
  (h1 : b = want → wpList P ops Q (Oper.mk dst op ty pos after none :: rest) a w) (h2 : b = (!want) → wpList P ops Q rest (a.put dst undef) w) : wpList P ops Q (Oper.mk dst op ty pos after (some (j, want)) :: rest) a w := by
 by_cases e : b = want
 ·have h := h1 e
  unfold wpList at h ⊢
  rw [if_pos (by simp [Region.wanted])] at h
  rw [if_pos (by simp [Region.wanted, hb, e])]
  exact h
 ·have h := h2 (by cases b <;> cases want <;> simp_all)
  unfold wpList
  rw [if_neg (by simp [Region.wanted, hb, e])]
  exact h
end
end TL
end Go
namespace Go
namespace TL
open Go.RowKit
section
variable {P : Program} {ops : Array Oper} {rest : List Oper} {o : Oper} {a : Act} {w w0 : World} {Q : Exit → Act → World → Prop} {F : List Nat} {L : List Chunk}
theorem getD_some {l : List UInt8} {i : Nat} (h : i < l.length) : (bs l)[i]? = some (.int .u8 (I8 (l.getD i 0))) := by
 rw [bs, List.getElem?_map, List.getD_eq_getElem?_getD, List.getElem?_eq_getElem h]; rfl
theorem w_loadB (M : Mem F w0 w L) (i : Nat) (t : TypeId) (x : Operand) (ho : o.op = .load t x) {g off : Nat} {l : List UInt8} (hi : L[i]? = some (.row g (bs l))) (hx : a.eval x = .pointer (some ⟨g, off, none⟩)) (hw : Region.wanted o (yielded ops a.tmps) = true)
  (ht : scalarT P t = true) (hlt : off < l.length) (h : wpList P ops Q rest (a.put o.dst (.int .u8 (I8 (l.getD off 0)))) w) : wpList P ops Q (o :: rest) a w :=
 w_load M i t x ho hi hx hw ht (getD_some hlt) h
theorem w_loadH (M : Mem F w0 w L) (i : Nat) (t : TypeId) (x : Operand) (ho : o.op = .load t x) {g : Nat} {l : List UInt8} (hi : L[i]? = some (.row g (bs l))) (hx : a.eval x = .pointer (some ⟨g, 0, none⟩)) (hw : Region.wanted o (yielded ops a.tmps) = true)
  (ht : rowT P t = true) {n : Nat} (hl : l.length = n) (hn : (P.info? t).map (·.size) = some n) (h : wpList P ops Q rest (a.put o.dst (.agg (bs l).toArray)) w) : wpList P ops Q (o :: rest) a w :=
 w_loadR M i t x ho hi hx hw ht (by rw [bs_length, hl]; exact hn) h
theorem w_storeB (M : Mem F w0 w L) (i : Nat) (t : TypeId) (x y : Operand) (ho : o.op = .store t x y) {g off : Nat} {l : List UInt8} (hi : L[i]? = some (.row g (bs l))) (hx : a.eval x = .pointer (some ⟨g, off, none⟩)) (hw : Region.wanted o (yielded ops a.tmps) = true)
  {b : UInt8} (hy : a.eval y = .int .u8 (I8 b)) (hn : (P.info? t).map (·.size) = some 1) (hlt : off < l.length)
  (h : ∀ w' : World, Mem F w0 w' (L.set i (.row g (bs (l.set off b)))) → wpList P ops Q rest (a.put o.dst undef) w') : wpList P ops Q (o :: rest) a w :=
 w_store M i t x y ho hi hx hw hy rfl rfl hn (by rw [bs_length]; exact hlt) (fun w' M' => h w' (by rw [bs_set]; exact M'))
theorem w_storeH (M : Mem F w0 w L) (i : Nat) (t : TypeId) (x y : Operand) (ho : o.op = .store t x y) {g : Nat} {l : List UInt8} (hi : L[i]? = some (.row g (bs l))) (hx : a.eval x = .pointer (some ⟨g, 0, none⟩)) (hw : Region.wanted o (yielded ops a.tmps) = true)
  {m : List UInt8} (hy : a.eval y = .agg (m.map vb).toArray) {n : Nat} (hm : m.length = n) (hn : (P.info? t).map (·.size) = some n) (hl : l.length = n)
  (h : ∀ w' : World, Mem F w0 w' (L.set i (.row g (bs m))) → wpList P ops Q rest (a.put o.dst undef) w') : wpList P ops Q (o :: rest) a w :=
 w_storeR M i t x y ho hi hx hw (bs m) hy rfl (by rw [bs_length, hm]; exact hn) (bs_one _) (by simp [bs_length, hm, hl]) h
theorem w_strip {dst : Option Tmp} {op : Op} {ty : TypeId} {pos : String} {after : Array Edge} {j : Nat} {want b : Bool} (hb : yielded ops a.tmps j = some b) (hl : b = want)
  (h : wpList P ops Q (Oper.mk dst op ty pos after none :: rest) a w) : wpList P ops Q (Oper.mk dst op ty pos after (some (j, want)) :: rest) a w := by
 subst hl
 unfold wpList at h ⊢
 rw [if_pos (by simp [Region.wanted])] at h
 rw [if_pos (by simp [Region.wanted, hb])]
 exact h
theorem w_case {dst : Option Tmp} {op : Op} {ty : TypeId} {pos : String} {after : Array Edge} {j : Nat} {want b : Bool} (_hb : yielded ops a.tmps j = some b)
  (h1 : b = true → wpList P ops Q (Oper.mk dst op ty pos after (some (j, want)) :: rest) a w) (h0 : b = false → wpList P ops Q (Oper.mk dst op ty pos after (some (j, want)) :: rest) a w) : wpList P ops Q (Oper.mk dst op ty pos after (some (j, want)) :: rest) a w := by
 cases b
 ·exact h0 rfl
 ·exact h1 rfl
end
end TL
end Go
namespace Go
namespace TL
/-! ### The next operation's shape: a law that fits it alone -/
section
variable {P : Program} {ops : Array Oper} {rest : List Oper} {a : Act} {w : World} {Q : Exit → Act → World → Prop} {dst : Option Tmp} {ty : TypeId} {pos : String} {after : Array Edge} {g : Option (Nat × Bool)}
theorem tLoad {t : TypeId} {x : Operand} (h : wpList P ops Q (Oper.mk dst (.load t x) ty pos after g :: rest) a w) : wpList P ops Q (Oper.mk dst (.load t x) ty pos after g :: rest) a w := h
theorem tStore {t : TypeId} {x y : Operand} (h : wpList P ops Q (Oper.mk dst (.store t x y) ty pos after g :: rest) a w) : wpList P ops Q (Oper.mk dst (.store t x y) ty pos after g :: rest) a w := h
theorem tApp {x : Array Operand} {t : Array TypeId} (h : wpList P ops Q (Oper.mk dst (.call ⟨.builtin .append, x, t⟩) ty pos after g :: rest) a w) : wpList P ops Q (Oper.mk dst (.call ⟨.builtin .append, x, t⟩) ty pos after g :: rest) a w := h
theorem tBox (dst : Option Tmp) {t : TypeId} {x : Operand} (h : wpList P ops Q (Oper.mk dst (.box t x) ty pos after g :: rest) a w) : wpList P ops Q (Oper.mk dst (.box t x) ty pos after g :: rest) a w := h
theorem tAlloc (dst : Option Tmp) (t : TypeId) (h : wpList P ops Q (Oper.mk dst (.alloc t) ty pos after g :: rest) a w) : wpList P ops Q (Oper.mk dst (.alloc t) ty pos after g :: rest) a w := h
theorem tConv (dst : Option Tmp) (s t : TypeId) {x : Operand} (h : wpList P ops Q (Oper.mk dst (.convert s t x) ty pos after g :: rest) a w) : wpList P ops Q (Oper.mk dst (.convert s t x) ty pos after g :: rest) a w := h
theorem tGuard {op : Op} {q : Nat × Bool} (h : wpList P ops Q (Oper.mk dst op ty pos after (some q) :: rest) a w) : wpList P ops Q (Oper.mk dst op ty pos after (some q) :: rest) a w := h
theorem apS {l : List Value} {d : List Deferred} {k : Nat} {v : Value} : Act.put ⟨l.toArray, d⟩ (some k) v = ⟨(l.set k v).toArray, d⟩ ∧ ∀ a : Act, Act.put a none v = a := ⟨by simp [Act.put], fun _ => rfl⟩
end
theorem ev_tmp {l : List Value} {d : List Deferred} {n : Nat} {v : Value} (h : l[n]? = some v) : Act.eval ⟨l.toArray, d⟩ (.tmp n) = v := by
 simp [Act.eval, h]
theorem ev_const {a : Act} {v : Value} : a.eval (.const v) = v := rfl
theorem w_at {P : Program} {ops : Array Oper} {rest : List Oper} {o : Oper} {a : Act} {w : World} {Q : Exit → Act → World → Prop} (t : TypeId) (x : Operand) (_ho : o.op = .load t x) {v : Value} (hx : a.eval x = v)
  (h : a.eval x = v → wpList P ops Q (o :: rest) a w) : wpList P ops Q (o :: rest) a w := h hx
theorem w_at2 {P : Program} {ops : Array Oper} {rest : List Oper} {o : Oper} {a : Act} {w : World} {Q : Exit → Act → World → Prop} (t : TypeId) (x y : Operand) (_ho : o.op = .store t x y) {v u : Value} (hx : a.eval x = v) (hy : a.eval y = u)
  (h : a.eval x = v → a.eval y = u → wpList P ops Q (o :: rest) a w) : wpList P ops Q (o :: rest) a w := h hx hy
end TL
end Go
namespace Go
namespace TL
open Go.RowKit
/-! ### The same laws, for a walk's arms: what stands at their sides is found by a tactic that each law names -/
section
variable {P : Program} {a : Act} {w w0 : World} {F : List Nat} {L : List Chunk} {t : TypeId} {g off : Nat} {cs : List Value} {l : List UInt8} {i : Nat}
def LdA (P : Program) (w : World) (t : TypeId) (va v : Value) : Prop := ∀ (ops : Array Oper) (Q : Exit → Act → World → Prop) (o : Oper) (x : Operand) (rest : List Oper) (a : Act), o.op = .load t x → a.eval x = va → Region.wanted o (yielded ops a.tmps) = true → wpList P ops Q rest (a.put o.dst v) w → wpList P ops Q (o :: rest) a w
theorem LdA.cell (M : Mem F w0 w L) (hi : L[i]? = some (.row g cs)) (ht : scalarT P t = true) {v : Value} (hv : cs[off]? = some v) : LdA P w t (.pointer (some ⟨g, off, none⟩)) v := fun _ _ _ x _ _ ho hx hw h => w_load M i t x ho hi hx hw ht hv h
theorem LdA.byte (M : Mem F w0 w L) (hi : L[i]? = some (.row g (bs l))) (ht : scalarT P t = true) (hlt : off < l.length) : LdA P w t (.pointer (some ⟨g, off, none⟩)) (.int .u8 (I8 (l.getD off 0))) := fun _ _ _ x _ _ ho hx hw h => w_loadB M i t x ho hi hx hw ht hlt h
theorem LdA.arr (M : Mem F w0 w L) (hi : L[i]? = some (.row g (bs l))) (ht : rowT P t = true) {n : Nat} (hl : l.length = n) (hn : (P.info? t).map (·.size) = some n) : LdA P w t (.pointer (some ⟨g, 0, none⟩)) (.agg (bs l).toArray) := fun _ _ _ x _ _ ho hx hw h => w_loadH M i t x ho hi hx hw ht hl hn h
theorem LdA.row (M : Mem F w0 w L) (hi : L[i]? = some (.row g cs)) (ht : rowT P t = true) (hn : (P.info? t).map (·.size) = some cs.length) : LdA P w t (.pointer (some ⟨g, 0, none⟩)) (.agg cs.toArray) := fun _ _ _ x _ _ ho hx hw h => w_loadR M i t x ho hi hx hw ht hn h
def StA (P : Program) (w : World) (t : TypeId) (va vy : Value) (R : World → Prop) : Prop := ∀ (ops : Array Oper) (Q : Exit → Act → World → Prop) (o : Oper) (x y : Operand) (rest : List Oper) (a : Act), o.op = .store t x y → a.eval x = va → a.eval y = vy → Region.wanted o (yielded ops a.tmps) = true → (∀ w' : World, R w' → wpList P ops Q rest (a.put o.dst undef) w') → wpList P ops Q (o :: rest) a w
theorem StA.cell (M : Mem F w0 w L) (hi : L[i]? = some (.row g cs)) {v : Value} (h1 : v.oneCell' = true) (hc : v.cells = #[v]) (hn : (P.info? t).map (·.size) = some 1) (hlt : off < cs.length) : StA P w t (.pointer (some ⟨g, off, none⟩)) v fun w' => Mem F w0 w' (L.set i (.row g (cs.set off v))) := fun _ _ _ x y _ _ ho hx hy hw h => w_store M i t x y ho hi hx hw hy h1 hc hn hlt h
theorem StA.byte (M : Mem F w0 w L) (hi : L[i]? = some (.row g (bs l))) {b : UInt8} (hn : (P.info? t).map (·.size) = some 1) (hlt : off < l.length) : StA P w t (.pointer (some ⟨g, off, none⟩)) (.int .u8 (I8 b)) fun w' => Mem F w0 w' (L.set i (.row g (bs (l.set off b)))) := fun _ _ _ x y _ _ ho hx hy hw h => w_storeB M i t x y ho hi hx hw hy hn hlt h
theorem StA.arr (M : Mem F w0 w L) (hi : L[i]? = some (.row g (bs l))) {m : List UInt8} {n : Nat} (hm : m.length = n) (hn : (P.info? t).map (·.size) = some n) (hl : l.length = n) : StA P w t (.pointer (some ⟨g, 0, none⟩)) (.agg (bs m).toArray) fun w' => Mem F w0 w' (L.set i (.row g (bs m))) := fun _ _ _ x y _ _ ho hx hy hw h => w_storeH M i t x y ho hi hx hw hy hm hn hl h
theorem StA.row (M : Mem F w0 w L) (hi : L[i]? = some (.row g cs)) {C : Array Value} {new : List Value} (hC : C = new.toArray) (hn : (P.info? t).map (·.size) = some new.length) (h1 : ∀ v ∈ new, v.oneCell' = true) (hl : new.length = cs.length) : StA P w t (.pointer (some ⟨g, 0, none⟩)) (.agg C) fun w' => Mem F w0 w' (L.set i (.row g new)) := fun _ _ _ x y _ _ ho hx hy hw h => w_storeR M i t x y ho hi hx hw new hy hC hn h1 hl h
def CvA (P : Program) (w : World) (src dst : TypeId) (vx v : Value) : Prop := ∀ (ops : Array Oper) (Q : Exit → Act → World → Prop) (o : Oper) (x : Operand) (rest : List Oper) (a : Act), o.op = .convert src dst x → a.eval x = vx → Region.wanted o (yielded ops a.tmps) = true → wpList P ops Q rest (a.put o.dst v) w → wpList P ops Q (o :: rest) a w
theorem CvA.arr {src dst e : TypeId} (M : Mem F w0 w L) (hi : L[i]? = some (.row g (bs l))) {n : Nat} (hb : l.length = n) (hm : n ≤ maxLen) (hs : P.underlying src = some (.slice e)) (he : P.underlying e = some (.int .u8)) (hd : P.underlying dst = some .string) : CvA P w src dst (.slice (some ⟨g, 0, none⟩) n n) (.string (mkS l)) := fun _ _ _ x _ _ ho hx hw h => w_stringW M i src dst e x ho hw hi hx hb hm hs he hd h
theorem CvA.sl {src dst e : TypeId} {v : Value} {n : Nat} (M : Mem F w0 w L) (hi : L[i]? = some (.sl 1 v n (bs l))) (hn : n = l.length) (hs : P.underlying src = some (.slice e)) (he : P.underlying e = some (.int .u8)) (hd : P.underlying dst = some .string) : CvA P w src dst v (.string (mkS l)) := fun _ _ _ x _ _ ho hx hw h => w_string M i src dst e x ho hw hi hn hx hs he hd h
end
section
variable {P : Program} {ops : Array Oper} {rest : List Oper} {a : Act} {w w0 : World} {Q : Exit → Act → World → Prop} {F : List Nat} {L : List Chunk} {dst : Option Tmp} {ty : TypeId} {pos : String} {after : Array Edge} {gd : Option (Nat × Bool)} {t : TypeId} {x y : Operand} {va v vy : Value} {R : World → Prop}
theorem ldS (hx : a.eval x = va := by exact ev_tmp rfl) (hw : Region.wanted (Oper.mk dst (.load t x) ty pos after gd) (yielded ops a.tmps) = true := by exact rfl)
  (hv : LdA P w t va v := by first | exact LdA.cell M yH yA (by exact rfl) | exact LdA.row M yH yA yC) : (wpList P ops Q rest (a.put dst v) w) → wpList P ops Q (Oper.mk dst (.load t x) ty pos after gd :: rest) a w := fun h => hv _ _ _ x _ _ rfl hx hw h
theorem ldB (hx : a.eval x = va := by exact ev_tmp rfl) (hw : Region.wanted (Oper.mk dst (.load t x) ty pos after gd) (yielded ops a.tmps) = true := by exact rfl)
  (hv : LdA P w t va v := by first | exact LdA.cell M yH yA (by exact rfl) | exact LdA.byte M yH yA yJ | exact LdA.arr M yH yA yO yA | exact LdA.row M yH yA yC) : (wpList P ops Q rest (a.put dst v) w) → wpList P ops Q (Oper.mk dst (.load t x) ty pos after gd :: rest) a w := fun h => hv _ _ _ x _ _ rfl hx hw h
theorem ldW (hx : a.eval x = va := by exact ev_tmp rfl) (hw : Region.wanted (Oper.mk dst (.load t x) ty pos after gd) (yielded ops a.tmps) = true := by exact rfl)
  (hv : LdA P w t va v := by first | exact LdA.cell M yH yA (by exact rfl) | exact LdA.byte M yH yA yJ | exact LdA.w32 M yH yA yJ | exact LdA.arr32 M yH yA yO yA | exact LdA.arr M yH yA yO yA | exact LdA.row M yH yA yC) : (wpList P ops Q rest (a.put dst v) w) → wpList P ops Q (Oper.mk dst (.load t x) ty pos after gd :: rest) a w := fun h => hv _ _ _ x _ _ rfl hx hw h
theorem stS (hx : a.eval x = va := by exact ev_tmp rfl) (hy : a.eval y = vy := by first | exact ev_tmp rfl | exact ev_const) (hw : Region.wanted (Oper.mk dst (.store t x y) ty pos after gd) (yielded ops a.tmps) = true := by exact rfl)
  (hv : StA P w t va vy R := by first | exact StA.cell M yH rfl rfl yA (by first | decide | simp | (simp; omega)) | exact StA.row M yH rfl yC (by simp [Value.oneCell']) (by first | rfl | assumption | exact Eq.symm (by assumption))) : (∀ w' : World, R w' → wpList P ops Q rest (a.put dst undef) w') → wpList P ops Q (Oper.mk dst (.store t x y) ty pos after gd :: rest) a w := fun h => hv _ _ _ x y _ _ rfl hx hy hw h
theorem stB (hx : a.eval x = va := by exact ev_tmp rfl) (hy : a.eval y = vy := by first | exact ev_tmp rfl | exact ev_const) (hw : Region.wanted (Oper.mk dst (.store t x y) ty pos after gd) (yielded ops a.tmps) = true := by exact rfl)
  (hv : StA P w t va vy R := by first | exact StA.byte M yH yA yJ | exact StA.arr M yH yO yA yO | exact StA.cell M yH rfl rfl yA (by first | decide | simp | (simp; omega)) | exact StA.row M yH rfl yC (by simp [Value.oneCell']) (by first | rfl | assumption | exact Eq.symm (by assumption))) : (∀ w' : World, R w' → wpList P ops Q rest (a.put dst undef) w') → wpList P ops Q (Oper.mk dst (.store t x y) ty pos after gd :: rest) a w := fun h => hv _ _ _ x y _ _ rfl hx hy hw h
theorem stBc (hx : a.eval x = va := by exact ev_tmp rfl) (hy : a.eval y = vy := by first | exact ev_tmp rfl | exact ev_const) (hw : Region.wanted (Oper.mk dst (.store t x y) ty pos after gd) (yielded ops a.tmps) = true := by exact rfl)
  (hv : StA P w t va vy R := by first | exact StA.byte M yH yA yJ | exact StA.arr M yH yO yA yO | exact StA.byteC M yH yN yA yJ | exact StA.cell M yH rfl rfl yA (by first | decide | simp | (simp; omega)) | exact StA.row M yH rfl yC (by simp [Value.oneCell']) (by first | rfl | assumption | exact Eq.symm (by assumption))) : (∀ w' : World, R w' → wpList P ops Q rest (a.put dst undef) w') → wpList P ops Q (Oper.mk dst (.store t x y) ty pos after gd :: rest) a w := fun h => hv _ _ _ x y _ _ rfl hx hy hw h
theorem stW (hx : a.eval x = va := by exact ev_tmp rfl) (hy : a.eval y = vy := by first | exact ev_tmp rfl | exact ev_const) (hw : Region.wanted (Oper.mk dst (.store t x y) ty pos after gd) (yielded ops a.tmps) = true := by exact rfl)
  (hv : StA P w t va vy R := by first | exact StA.w32 M yH yA yJ | exact StA.arr32 M yH yO yA yO | exact StA.byte M yH yA yJ | exact StA.arr M yH yO yA yO | exact StA.cell M yH rfl rfl yA (by first | decide | simp | (simp; omega)) | exact StA.row M yH rfl yC (by simp [Value.oneCell']) (by first | rfl | assumption | exact Eq.symm (by assumption))) : (∀ w' : World, R w' → wpList P ops Q rest (a.put dst undef) w') → wpList P ops Q (Oper.mk dst (.store t x y) ty pos after gd :: rest) a w := fun h => hv _ _ _ x y _ _ rfl hx hy hw h
theorem cvB {src des : TypeId} (hx : a.eval x = va := by first | exact ev_tmp rfl | exact ev_const) (hw : Region.wanted (Oper.mk dst (.convert src des x) ty pos after gd) (yielded ops a.tmps) = true := by exact rfl)
  (hv : CvA P w src des va v := by first | exact CvA.arr M yH yO yN Tryz.underlying70 Tryz.underlying5 Tryz.underlying9 | exact CvA.sl M yH (by first | rfl | (simp; done) | assumption) Tryz.underlying70 Tryz.underlying5 Tryz.underlying9) : (wpList P ops Q rest (a.put dst v) w) → wpList P ops Q (Oper.mk dst (.convert src des x) ty pos after gd :: rest) a w := fun h => hv _ _ _ x _ _ rfl hx hw h
theorem bxA {cs : List Value} (M : Mem F w0 w L) (hx : a.eval x = v := by first | exact ev_tmp rfl | exact ev_const) (hw : Region.wanted (Oper.mk dst (.box t x) ty pos after gd) (yielded ops a.tmps) = true := by exact rfl)  (hc : v.cells = cs.toArray := by exact rfl) : (∀ (g : Nat) (w' : World), Mem F w0 w' (.row g cs :: L) → wpList P ops Q rest (a.put dst (.pointer (some ⟨g, 0, none⟩))) w') → wpList P ops Q (Oper.mk dst (.box t x) ty pos after gd :: rest) a w := fun h => w_box M t x rfl hw v hx cs hc h
end
def Open2 (_ : Bool) : Prop := True
theorem Open2.f {b : Bool} (_ : b = false) : Open2 b := trivial
theorem Open2.t {b : Bool} (_ : b = true) : Open2 b := trivial
section
variable {P : Program} {ops : Array Oper} {rest : List Oper} {a : Act} {w : World} {Q : Exit → Act → World → Prop}
theorem gdS {dst : Option Tmp} {op : Op} {ty : TypeId} {pos : String} {after : Array Edge} {j : Nat} {want b : Bool} (hb : yielded ops a.tmps j = some b := by exact rfl) (hl : b = want := by with_reducible rfl) : (wpList P ops Q (Oper.mk dst op ty pos after none :: rest) a w) → wpList P ops Q (Oper.mk dst op ty pos after (some (j, want)) :: rest) a w := fun h => w_strip hb hl h
theorem gdC {dst : Option Tmp} {op : Op} {ty : TypeId} {pos : String} {after : Array Edge} {j : Nat} {want b : Bool} (h1 : b = true → wpList P ops Q (Oper.mk dst op ty pos after (some (j, want)) :: rest) a w) (h0 : b = false → wpList P ops Q (Oper.mk dst op ty pos after (some (j, want)) :: rest) a w) (hb : yielded ops a.tmps j = some b := by exact rfl) (_hu : Open2 b := by (fail_if_success (exact Open2.f (by with_reducible rfl))); (fail_if_success (exact Open2.t (by with_reducible rfl))); exact trivial) : wpList P ops Q (Oper.mk dst op ty pos after (some (j, want)) :: rest) a w := w_case hb h1 h0
end
end TL
end Go
namespace Go
namespace TL
/-! ### One law for an arm: what is left (R) leads to what is asked (G); which law serves is found by the operation's shape -/
section
variable {P : Program} {ops : Array Oper} {rest : List Oper} {a a' : Act} {w : World} {Q : Exit → Act → World → Prop} {dst : Option Tmp} {ty : TypeId} {pos : String} {after : Array Edge} {g : Option (Nat × Bool)} {G R : Prop}
theorem aL {t : TypeId} {x : Operand} (h : R → wpList P ops Q (Oper.mk dst (.load t x) ty pos after g :: rest) a w) : R → wpList P ops Q (Oper.mk dst (.load t x) ty pos after g :: rest) a w := h
theorem aS {t : TypeId} {x y : Operand} (h : R → wpList P ops Q (Oper.mk dst (.store t x y) ty pos after g :: rest) a w) : R → wpList P ops Q (Oper.mk dst (.store t x y) ty pos after g :: rest) a w := h
theorem aX {t : TypeId} {x : Operand} (h : R → wpList P ops Q (Oper.mk dst (.box t x) ty pos after g :: rest) a w) : R → wpList P ops Q (Oper.mk dst (.box t x) ty pos after g :: rest) a w := h
theorem aC (s t : TypeId) {x : Operand} (h : R → wpList P ops Q (Oper.mk dst (.convert s t x) ty pos after g :: rest) a w) : R → wpList P ops Q (Oper.mk dst (.convert s t x) ty pos after g :: rest) a w := h
theorem aG {op : Op} {q : Nat × Bool} (h : R → wpList P ops Q (Oper.mk dst op ty pos after (some q) :: rest) a w) : R → wpList P ops Q (Oper.mk dst op ty pos after (some q) :: rest) a w := h
theorem mS (h : R) (hv : R → G := by first | ((with_reducible apply aG); exact gdS) | ((with_reducible apply aL); exact ldS) | ((with_reducible apply aS); exact stS) | ((with_reducible apply aX); exact bxA M)) : G := hv h
theorem mB (h : R) (hv : R → G := by first | ((with_reducible apply aG); exact gdS) | ((with_reducible apply aC 70 9); exact cvB) | ((with_reducible apply aL); exact ldB) | ((with_reducible apply aS); exact stB) | ((with_reducible apply aX); exact bxA M)) : G := hv h
theorem mW (h : R) (hv : R → G := by first | ((with_reducible apply aG); exact gdS) | ((with_reducible apply aC 70 9); exact cvB) | ((with_reducible apply aL); exact ldW) | ((with_reducible apply aS); exact stW) | ((with_reducible apply aX); exact bxA M)) : G := hv h
theorem mC (h : R) (hv : R → G := by first | ((with_reducible apply aG); exact gdS) | ((with_reducible apply aC 70 9); exact cvB) | ((with_reducible apply aL); exact ldB) | ((with_reducible apply aS); exact stBc) | ((with_reducible apply aX); exact bxA M)) : G := hv h
theorem tU (t : TypeId) {x : Array (Nat × Operand)} (h : wpList P ops Q (Oper.mk dst (.buildSlice t 1 x) ty pos after g :: rest) a w) : wpList P ops Q (Oper.mk dst (.buildSlice t 1 x) ty pos after g :: rest) a w := h
theorem mU (h : R) (hv : R → G := by exact w_buildSliceB M bytesT _ rfl rfl yF) : G := hv h
@[reducible] def memOp (op : Op) (g : Option (Nat × Bool)) : Bool := match g, op with
 | some _, _ => true
 | none, .load _ _ => true
 | none, .store _ _ _ => true
 | none, .box _ _ => true
 | none, .convert _ _ _ => true
 | _, _ => false
theorem tM {op : Op} (_ : memOp op g = true) (h : wpList P ops Q (Oper.mk dst op ty pos after g :: rest) a w) : wpList P ops Q (Oper.mk dst op ty pos after g :: rest) a w := h
theorem dcd {b1 : Option Bool} {c : Bool} (h : ∃ b, b1 = some b ∧ b = c := by (refine ⟨_, rfl, ?_⟩; first | (with_reducible rfl) | exact decide_eq_false yE | exact decide_eq_true yE)) : ∃ b, b1 = some b ∧ b = c := h
end
end TL
end Go

namespace Go
namespace TL
open Go.RowKit
attribute [go_sem] mkS_size mkS_toList mkS_append
@[go_sem] theorem mkS_fold (l : List UInt8) : ByteArray.mk (List.toArray l) = mkS l := rfl
theorem mkS_extract (l : List UInt8) (i j : Nat) : (mkS l).extract i j = mkS ((l.take j).drop i) := by
 apply ByteArray.ext; apply Array.ext'; simp [mkS, ByteArray.data_extract, List.extract, List.drop_take]
@[go_sem high] theorem mkS_extract0 (l : List UInt8) (j : Nat) : (mkS l).extract 0 j = mkS (l.take j) := by rw [mkS_extract, List.drop_zero]
@[go_sem high] theorem mkS_extractE (l : List UInt8) (i : Nat) : (mkS l).extract i l.length = mkS (l.drop i) := by rw [mkS_extract, List.take_length]
@[go_sem] theorem mkS_extractM (l : List UInt8) (i j : Nat) : (mkS l).extract i j = mkS ((l.take j).drop i) := mkS_extract l i j
def bt (l : List UInt8) (i : Nat) : UInt8 := l.getD i 0
@[go_sem] theorem mkS_bt (l : List UInt8) (k : Nat) (h : k < (mkS l).size) : (mkS l)[k] = bt l k := by
 have hl : k < l.length := by rwa [mkS_size] at h
 rw [bt, List.getD_eq_getElem?_getD, List.getElem?_eq_getElem hl]; rfl
theorem I8_bt (l : List UInt8) (k : Nat) : I8 (bt l k) = ((l.getD k 0).toNat : Int) := rfl
@[go_sem ↓] theorem run_index_mkS {P : Program} (w : World) (t : TypeId) (l : List UInt8) (k : IntKind) (i : Int) (hu : P.underlying t = some .string) (h0 : 0 ≤ i) (h1 : i < l.length) :
  (Instr.index t (.string (mkS l)) (.int k i)).run P w = .ok (.int .u8 (I8 (bt l i.toNat))) w := by
 have hs : i.toNat < (mkS l).size := by rw [mkS_size]; omega
 have hl : i.toNat < l.length := by omega
 have e : (mkS l)[i.toNat]? = some (l.getD i.toNat 0) := by
  rw [getElem?_pos (mkS l) i.toNat hs, List.getD_eq_getElem?_getD, List.getElem?_eq_getElem hl]; rfl
 simp only [Instr.index, asIntOf, Sem.run_bind, Sem.run_pure, Result.andThen_ok, run_underlying hu]
 simp only [h0, if_true, e]
 rfl
section
variable {P : Program} {ops : Array Oper} {rest : List Oper} {o : Oper} {a : Act} {w w0 : World} {Q : Exit → Act → World → Prop} {F : List Nat} {L : List Chunk}
theorem w_makeB (M : Mem F w0 w L) (t : TypeId) (x y : Operand) (ho : o.op = .makeSlice t x y) (hw : Region.wanted o (yielded ops a.tmps) = true) (n : Nat) {kl kc : IntKind} {m m' : Int} (hx : a.eval x = .int kl m) (hy : a.eval y = .int kc m') (hm : m = (n : Nat)) (hm' : m' = (n : Nat)) {e : TypeId} (ht : P.underlying t = some (.slice e)) (hz : (P.info? e).bind (·.zero) = some (.int .u8 0)) (hs : (P.info? e).map (fun i => (i.size, i.bytes)) = some (1, 1)) (hn : n ≤ 16777216)
  (h : ∀ (g : Nat) (w' : World), Mem F w0 w' (.row g (bs (List.replicate n 0)) :: L) → wpList P ops Q rest (a.put o.dst (.slice (some ⟨g, 0, none⟩) n n)) w') : wpList P ops Q (o :: rest) a w :=
 wpW hw fun _ hK => by
  subst hm hm'
  cases hq : P.info? e with
  | none => simp [hq] at hz
  | some inf =>
   have hzz : inf.zero = some (.int .u8 0) := by simpa [hq] using hz
   have hss : inf.size = 1 ∧ inf.bytes = 1 := by simpa [hq] using hs
   have hr := run_makeSlice (P := P) (w := w) t e inf (.int .u8 0) ht hq hzz kl kc n n yE (Int.le_refl _) (by rw [hss.1]; simp; omega) (by rw [hss.2]; omega) yE
   have e1 : madeCells (Value.int .u8 0).cells ((n : Int).toNat * inf.size) = (bs (List.replicate n 0)).toArray := by
    rw [hss.1]
    apply Array.ext'
    simp [madeCells, bs, vb, I8, Value.cells]
    apply List.ext_getElem
    ·simp
    ·intro i h1 h2; simp [Nat.mod_one]
   rw [e1] at hr
   unfold Oper.wp execOp
   simp only [ho, hx, hy, Sem.run_bind, hr, Result.andThen_ok]
   refine hK _ _ ?_
   have := h _ _ (M.alloc (bs (List.replicate n 0)).toArray e)
   simpa using this
end
theorem eqInRow {P : Program} {t e : TypeId} {n : Nat} (hu : P.underlying t = some (.array n e)) (he : P.underlying e = some (.int .u8)) (hc : P.cellsOf e = 1) (l m : List UInt8) (hl : l.length = n) (hm : m.length = n) (w : World) : (Op.equalIn 10000 t (.agg (bs l).toArray) (.agg (bs m).toArray)).run P w = .ok (l == m) w := by
 obtain ⟨i, hi⟩ := info_of_underlying he
 have := run_equalIn_array w 9999 (bs l).toArray (bs m).toArray hu hi
 unfold bs at this ⊢
 rw [hc, run_eqItemsB he 9998 l m yE w (List.range n) (fun i hi => by rw [hl]; exact List.mem_range.1 hi)] at this
 rw [← hl, all_range_eq l m yE] at this
 exact this
theorem setTake (l : List UInt8) (n k : Nat) (hl : l.length = n) (hk : k < n) : (l.take k ++ List.replicate (n - k) 0).set k (l.getD k 0) = l.take (k + 1) ++ List.replicate (n - (k + 1)) 0 := by
 rw [List.set_append_right _ _ (by simp; omega)]
 simp only [List.length_take, Nat.min_eq_left (show k ≤ l.length by omega), Nat.sub_self]
 rw [List.take_succ_eq_append_getElem yE, List.append_assoc, show n - k = (n - (k + 1)) + 1 by omega, List.replicate_succ, List.set_cons_zero, List.getD_eq_getElem?_getD, List.getElem?_eq_getElem yE]
 rfl
end TL
end Go
namespace Go
namespace TL
open Go.RowKit
section
variable {P : Program} {ops : Array Oper} {rest : List Oper} {o : Oper} {a : Act} {w w0 : World} {Q : Exit → Act → World → Prop} {F : List Nat} {L : List Chunk}
theorem Mem.slAddr (M : Mem F w0 w L) (i : Nat) {size n cap : Nat} {q : Option Addr} {m : Nat} {xs : List Value} (hi : L[i]? = some (.sl size (.slice q m cap) n xs)) (hn : 0 < n) : ∃ g o, q = some ⟨g, o, none⟩ := by
 rcases (M.ok i _ hi).2 with ⟨_, h0⟩ | ⟨g, o, c, hv, _⟩
 ·omega
 ·injection hv with h1 h2 h3; exact ⟨g, o, h1⟩
theorem Mem.slCap (M : Mem F w0 w L) (i : Nat) {size n cap : Nat} {q : Option Addr} {m : Nat} {xs : List Value} (hi : L[i]? = some (.sl size (.slice q m cap) n xs)) : m = n ∧ n ≤ cap ∧ cap ≤ maxLen ∧ xs.length = n * size := by
 have h := M.ok i _ hi
 rcases h.2 with ⟨hv, h0⟩ | ⟨g, o, c, hv, _, _, h1, h2, _⟩
 ·injection hv with _ e1 e2; exact ⟨by omega, by omega, by omega, h.1⟩
 ·injection hv with _ e1 e2; exact ⟨e1, by omega, by omega, h.1⟩
theorem Mem.slCell (M : Mem F w0 w L) (i : Nat) {size n m cap g so : Nat} {xs : List Value} (hi : L[i]? = some (.sl size (.slice (some ⟨g, so, none⟩) m cap) n xs)) {j : Nat} {v : Value} (hv : xs[j]? = some v) : w.cell? ⟨g, so + j, none⟩ = some v := by
 rcases (M.ok i _ hi).2 with ⟨h0, _⟩ | ⟨g', o', c, hv', _, _, _, _, hr, _⟩
 ·cases h0
 ·injection hv' with h1 _ _; injection h1 with h1; injection h1 with h1 h2; subst h1; subst h2; exact hr j v hv
theorem w_loadS (M : Mem F w0 w L) (i : Nat) (t : TypeId) (x : Operand) (ho : o.op = .load t x) {size n m cap g so off : Nat} {xs : List Value} (hi : L[i]? = some (.sl size (.slice (some ⟨g, so, none⟩) m cap) n xs)) (hx : a.eval x = .pointer (some ⟨g, off, none⟩)) (hw : Region.wanted o (yielded ops a.tmps) = true)
  (ht : scalarT P t = true) (j : Nat) (hoff : off = so + j) {v : Value} (hv : xs[j]? = some v) (h : wpList P ops Q rest (a.put o.dst v) w) : wpList P ops Q (o :: rest) a w :=
 wpW hw fun _ hK => by
  subst hoff
  unfold Oper.wp execOp
  simp only [ho, hx, Instr.loadAt, Instr.sureAddr, Sem.run_bind, Sem.run_pure, Result.andThen_ok, run_loadVar_scalar ht w g _ v (M.slCell i hi hv)]
  exact hK _ _ h
end
end TL
end Go
namespace Go
namespace TL
open Go.RowKit
section
variable {P : Program} {ops : Array Oper} {rest : List Oper} {o : Oper} {a : Act} {w w0 : World} {Q : Exit → Act → World → Prop} {F : List Nat} {L : List Chunk}
theorem w_bytes (M : Mem F w0 w L) (src dst e : TypeId) (x : Operand) (ho : o.op = .convert src dst x) (hw : Region.wanted o (yielded ops a.tmps) = true) {l : List UInt8} (hx : a.eval x = .string (mkS l))
  (hs : P.underlying src = some .string) (hd : P.underlying dst = some (.slice e)) (he : P.underlying e = some (.int .u8)) (hl : l.length ≤ 1000000000000)
  (h : ∀ (g cap : Nat) (w' : World), l.length ≤ cap → Mem F w0 w' (.sl 1 (.slice (some ⟨g, 0, none⟩) l.length cap) l.length (bs l) :: L) → wpList P ops Q rest (a.put o.dst (.slice (some ⟨g, 0, none⟩) l.length cap)) w') : wpList P ops Q (o :: rest) a w :=
 wpW hw fun _ hK => by
  have hr := Lib.run_convert_string_bytes (P := P) w src dst e (mkS l) hs hd he
  rw [mkS_size] at hr
  obtain ⟨cap, ec⟩ : ∃ cap, cap = grownCap w l.length 0 e := ⟨_, rfl⟩
  have hc1 : l.length ≤ cap := by rw [ec]; exact grownCap_ge _ _ _ _
  have hc2 : cap ≤ maxLen := by rw [ec]; exact grownCap_le_maxLen _ _ _ _ (by simp only [maxLen]; omega)
  have hsz : (Lib.bytesCells w e (mkS l)).size = cap := by
   simp only [Lib.bytesCells, Array.size_append, Array.size_map, Array.size_replicate, mkS_size, ← ec]
   show (mkS l).data.size + _ = _
   have : (mkS l).data.size = l.length := mkS_size l
   omega
  have hnew := Lib.bytesWorld_at_new w e (mkS l)
  have hk : Kept [] w (Lib.bytesWorld w e (mkS l)) := ⟨rfl, rfl, rfl, by rw [Lib.bytesWorld_size]; omega, fun k hk _ => Lib.bytesWorld_at_old w e (mkS l) k hk⟩
  have hok : (Chunk.sl 1 (.slice (some ⟨w.heap.size, 0, none⟩) l.length cap) l.length (bs l)).ok (Lib.bytesWorld w e (mkS l)) := by
   refine ⟨by simp [bs_length], .inr ⟨w.heap.size, 0, cap, rfl, Nat.zero_le _, by rw [Lib.bytesWorld_size]; omega, hc1, hc2, ?_, ?_⟩⟩
   ·intro j v hv
    have hj : j < l.length := by have := (List.getElem?_eq_some_iff.1 hv).1; rwa [bs_length] at this
    rw [Nat.zero_add, Lib.bytesWorld_cell w e (mkS l) j (by rw [mkS_size]; exact hj), mkS_data, ← hv, getD_some hj]; rfl
   ·intro j hj
    rw [Nat.mul_one] at hj
    rw [Nat.zero_add]
    constructor
    ·simp only [World.cell?, hnew]
     rw [if_neg yN, Array.getElem?_eq_getElem yE]; rfl
    ·simp only [World.frozen?, hnew]
     rw [hsz]; simp; omega
  rw [← ec] at hr
  unfold Oper.wp execOp
  simp only [ho, hx, Sem.run_bind, hr, Result.andThen_ok]
  exact hK _ _ (h _ cap _ hc1 (M.add _ hk hok (by simp [Chunk.fp, Value.ownBlock])))
end
end TL
end Go
namespace Go
namespace TL
open Go.RowKit
theorem w_buildSliceB {P : Program} {ops : Array Oper} {rest : List Oper} {o : Oper} {a : Act} {w w0 : World} {Q : Exit → Act → World → Prop} {F : List Nat} {L : List Chunk} (M : Mem F w0 w L) {t e : TypeId} (T : SliceT P t e 1 1) (x : Operand) (ho : o.op = .buildSlice t 1 #[(0, x)]) (hw : Region.wanted o (yielded ops a.tmps) = true) {b : UInt8} (hx : a.eval x = .int .u8 (I8 b))
  (h : ∀ (g : Nat) (w' : World), Mem F w0 w' (.row g (bs [b]) :: L) → wpList P ops Q rest (a.put o.dst (.slice (some ⟨g, 0, none⟩) 1 1)) w') : wpList P ops Q (o :: rest) a w :=
 w_buildSlice1 M T yN x ho hw hx (bs [b]) rfl rfl h
end TL
end Go

namespace Go.Proofs.YtidadhbaomieiaaGreat
open Go.RowKit Go.TL
theorem hashT : ∀ l m : List UInt8, l.length = 32 → m.length = 32 → EqRow Tryz.prog 64 l m := fun l m hl hm =>
 eqRow Tryz.underlying64 Tryz.underlying5 yC yC l m hl hm
section
variable (l m : List UInt8) (hl : l.length = 32) (hm : m.length = 32) (w : World)
include hl hm
@[go_sem ↓] theorem hash_in : (Op.equalIn 10000 64 (.agg (bs l).toArray) (.agg (bs m).toArray)).run Tryz.prog w = .ok (l == m) w := eqInRow Tryz.underlying64 Tryz.underlying5 yC l m hl hm w
@[go_sem ↓] theorem hash_eql : (binOp .eql 64 (.agg (bs l).toArray) (.agg (bs m).toArray)).run Tryz.prog w = .ok (.bool (l == m)) w := (hashT l m hl hm).eql w
@[go_sem ↓] theorem hash_guardE (x y : Operand) : (eqGuard .eql 64 x y (.agg (bs l).toArray) (.agg (bs m).toArray)).run Tryz.prog w = .ok () w := (hashT l m hl hm).guardE x y w
end
end Go.Proofs.YtidadhbaomieiaaGreat

namespace Go.Proofs.YtidadhbaomieiaaGreat
open Go.RowKit Go.TL
@[go_sem] theorem shaL_len (l : List UInt8) : (shaL l).length = 32 := by have := shaL_length l; omega
instance shaLen {l : List UInt8} : HXor (PLift (shaL l = shaL l)) Unit (PLift ((shaL l).length = 32)) := ⟨fun _ _ => ⟨shaL_len l⟩⟩
section
variable (l m : List UInt8) (hl : l.length = 32) (hm : m.length = 32) (w : World)
include hl hm
@[go_sem ↓] theorem hash_neq : (binOp .neq 64 (.agg (bs l).toArray) (.agg (bs m).toArray)).run Tryz.prog w = .ok (.bool (!(l == m))) w := (hashT l m hl hm).neq w
@[go_sem ↓] theorem hash_guardN (x y : Operand) : (eqGuard .neq 64 x y (.agg (bs l).toArray) (.agg (bs m).toArray)).run Tryz.prog w = .ok () w := (hashT l m hl hm).guardN x y w
end
end Go.Proofs.YtidadhbaomieiaaGreat

namespace Go.Proofs.YtidadhbaomieiaaGreat
open Go.RowKit Go.TL
theorem Tag_c (key text : List UInt8) (w : World) (hk : key.length ≤ 100000000000) (ht : text.length ≤ 100000000000) :
  Calls Tryz.prog 47 #[.string (mkS key), .string (mkS text)] w fun e w' => e = .returned (.agg (bs (macL key text)).toArray) ∧ Below w.heap.size w w' :=
 Tag_any (mkS key) (mkS text) w (by rw [mkS_size]; exact hk) (by rw [mkS_size]; exact ht)
theorem Equal_c (a b : List UInt8) (ha : a.length = 32) (hb : b.length = 32) (w : World) :
  Calls Tryz.prog 83 #[.agg (bs a).toArray, .agg (bs b).toArray] w fun e w' => e = .returned (.bool (a == b)) ∧ Below w.heap.size w w' := Equal_any a b ha hb w
@[go_sem] theorem macL_len (k l : List UInt8) : (macL k l).length = 32 := by have := macL_length k l; omega
instance macLen {k l : List UInt8} : HXor (PLift (macL k l = macL k l)) Unit (PLift ((macL k l).length = 32)) := ⟨fun _ _ => ⟨macL_len k l⟩⟩
attribute [go_sem] macPad_length
theorem Key_c (k label : List UInt8) (w : World) (hk : k.length = 32) (hl : label.length ≤ 100000000000) :
  Calls Tryz.prog 110 #[.agg (bs k).toArray, .string (mkS label)] w fun e w' => e = .returned (.agg (bs (macL k label)).toArray) ∧ Below w.heap.size w w' := by
 have M := Mem.start [] w
 go_enter Tryz.func110, Tryz.ntmps110
 go_wp2_with ((first | ((with_reducible refine tM rfl ?_); refine mB ?_; try (clear M; (first | intro g w1 M | intro w1 M); try simp only [setC] at M)) | ((with_reducible refine tGuard ?_); refine gdC ?_ ?_ <;> (intro hgd; rw [hgd]; try (exfalso; simp at hgd; omega))) | ((with_reducible refine tAlloc _ 50 ?_); refine w_alloc M _ rfl rfl (.agg (Array.replicate 32 (.int .u8 0))) (bs (List.replicate 32 (0 : UInt8))) yC rfl ?_; clear M; intro g w1 M) | (go_at_call 47; (refine (Tag_c _ _ _ yE yE).mono ?_; rintro e w1 ⟨rfl, hb⟩; replace M := M.call hb; clear hb))) <;> (try conv => arg 5; simp only [apS, setC]))
 refine bodyPost_ret (results_row rfl _ _ _ 0 (bs (macL k label)) _ rfl (M.ok 0 _ rfl).2.1 Tryz.underlying50 rfl yC) rfl ⟨rfl, M.below⟩
end Go.Proofs.YtidadhbaomieiaaGreat
