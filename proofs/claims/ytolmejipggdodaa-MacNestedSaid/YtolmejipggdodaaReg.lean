/- A region that draws its order, walked in one order, beside the walk's memory. No conditions but those each law names. -/
import Derived.Test.YtolmejipggdodaaHeap
import Derived.Test.YtolmejipggdodaaLow
namespace Go
namespace TL
open Go.RowKit
/-- The pieces that a region's loads read stand as they were. -/
def IxOk {F : List Nat} {w0 w : World} {L : List Chunk} (_ : Mem F w0 w L) (is : List Nat) (w' : World) : Prop := ∀ i ∈ is, ∀ c, L[i]? = some c → Chunk.ok w' c
section
variable {P : Program} {o : Oper} {w w0 w' : World} {F : List Nat} {L : List Chunk} {M : Mem F w0 w L} {is : List Nat}
theorem ixOk_self (M : Mem F w0 w L) (is : List Nat) : IxOk M is w.drew := fun i _ c hc => M.drew.ok i c hc
theorem ixOk_nil : IxOk M [] w' := fun _ h => by cases h
theorem ixOk_cons {i : Nat} {c : Chunk} (hi : L[i]? = some c) (h : c.ok w') (r : IxOk M is w') : IxOk M (i :: is) w' := fun j hj d hd => by
  rcases List.mem_cons.1 hj with rfl | hj
  · rw [hi] at hd; cases hd; exact h
  · exact r j hj d hd
theorem rowCell {g : Nat} {cs : List Value} (h : (Chunk.row g cs).ok w') {off : Nat} {v : Value} (hv : cs[off]? = some v) : w'.cell? ⟨g, off, none⟩ = some v := by
  have := h.2.1 off v hv; rwa [Nat.zero_add] at this
theorem stab_ix (M : Mem F w0 w L) (i : Nat) (off : Nat) {t : TypeId} {x : Operand} (ho : o.op = .load t x) {g : Nat} {cs : List Value} (hi : L[i]? = some (.row g cs)) (hin : i ∈ is) (ht : scalarT P t = true) {v : Value} (hv : cs[off]? = some v) : Stab P (IxOk M is) o (.pointer (some ⟨g, off, none⟩)) := by
  unfold Stab; rw [ho]
  refine ⟨v, fun w' hw => ?_⟩
  simp only [Instr.loadAt, Instr.sureAddr, Sem.run_bind, Sem.run_pure, Result.andThen_ok, run_loadVar_scalar ht w' g off v (rowCell (hw i hin _ hi) hv)]
theorem stab_ixB (M : Mem F w0 w L) (i : Nat) (off : Nat) {t : TypeId} {x : Operand} (ho : o.op = .load t x) {g : Nat} {l : List UInt8} (hi : L[i]? = some (.row g (bs l))) (hin : i ∈ is) (ht : scalarT P t = true) (hlt : off < l.length) : Stab P (IxOk M is) o (.pointer (some ⟨g, off, none⟩)) :=
  stab_ix M i off ho hi hin ht (getD_some hlt)
theorem stab_ixA (M : Mem F w0 w L) (i : Nat) (off : Nat) {t : TypeId} {x : Operand} (ho : o.op = .load t x) {g : Nat} {cs : List Value} (hi : L[i]? = some (.row g cs)) (hin : i ∈ is) (ht : rowT P t = true) (pre mid post : List Value) (hcs : cs = pre ++ (mid ++ post)) (hpre : pre.length = off) (hn : (P.info? t).map (·.size) = some mid.length) : Stab P (IxOk M is) o (.pointer (some ⟨g, off, none⟩)) := by
  unfold rowT at ht
  cases hu : P.underlying t with
  | none => simp [hu] at ht
  | some d =>
    simp only [hu] at ht
    refine stab_load ho g off mid d (fun w' hw j v hv => rowCell (hw i hin _ hi) ?_) hu ht hn
    have hj : j < mid.length := (List.getElem?_eq_some_iff.1 hv).1
    rw [hcs, ← hpre, List.getElem?_append_right (by omega), Nat.add_sub_cancel_left, List.getElem?_append_left hj]; exact hv
theorem stab_ixR (M : Mem F w0 w L) (i : Nat) {t : TypeId} {x : Operand} (ho : o.op = .load t x) {g : Nat} {cs : List Value} (hi : L[i]? = some (.row g cs)) (hin : i ∈ is) (ht : rowT P t = true) (hn : (P.info? t).map (·.size) = some cs.length) : Stab P (IxOk M is) o (.pointer (some ⟨g, 0, none⟩)) :=
  stab_ixA M i 0 ho hi hin ht [] cs [] (by simp) rfl hn
theorem stab_ixH (M : Mem F w0 w L) (i : Nat) {t : TypeId} {x : Operand} (ho : o.op = .load t x) {g : Nat} {l : List UInt8} (hi : L[i]? = some (.row g (bs l))) (hin : i ∈ is) (ht : rowT P t = true) {n : Nat} (hl : l.length = n) (hn : (P.info? t).map (·.size) = some n) : Stab P (IxOk M is) o (.pointer (some ⟨g, 0, none⟩)) :=
  stab_ixR M i ho hi hin ht (by rw [bs_length, hl]; exact hn)
/-- string(a[:]), a an array. -/
theorem stab_ixW (M : Mem F w0 w L) (i : Nat) {src dst e : TypeId} {x : Operand} (ho : o.op = .convert src dst x) {g : Nat} {l : List UInt8} (hi : L[i]? = some (.row g (bs l))) (hin : i ∈ is) {n : Nat} (hl : l.length = n) (hm : n ≤ maxLen) (hs : P.underlying src = some (.slice e)) (he : P.underlying e = some (.int .u8)) (hd : P.underlying dst = some .string) : Stab P (IxOk M is) o (.slice (some ⟨g, 0, none⟩) n n) := by
  refine stab_conv ho _ l (fun w' hw => ?_) hs he hd
  have := row_sees (off := 0) (n := n) (cap := n) (hw i hin _ hi) (by omega) (Nat.le_refl _) hm
  rwa [List.drop_zero, List.take_of_length_le (by omega)] at this
/-- string(b), b owned. -/
theorem stab_ixS (M : Mem F w0 w L) (i : Nat) {src dst e : TypeId} {x : Operand} (ho : o.op = .convert src dst x) {v : Value} {n : Nat} {l : List UInt8} (hi : L[i]? = some (.sl 1 v n (bs l))) (hin : i ∈ is) (hl : n = l.length) (hs : P.underlying src = some (.slice e)) (he : P.underlying e = some (.int .u8)) (hd : P.underlying dst = some .string) : Stab P (IxOk M is) o v := by
  subst hl
  exact stab_conv ho v l (fun w' hw => Own.sees (hw i hin _ hi)) hs he hd
end
theorem nums_bs (l : List UInt8) : Shape.ok .nums (.agg (bs l).toArray) = true := nums_vb l
end TL
end Go
