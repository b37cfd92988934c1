/- Elements of the walk's own slice of structs. No conditions but those each law names. -/
import Derived.Test.YtidadhbaomieiaaGreatVSees
namespace Go
namespace TL
open Go.RowKit
section
variable {α : Type} {P : Program} {ops : Array Oper} {rest : List Oper} {o : Oper} {a : Act} {w w0 : World} {Q : Exit → Act → World → Prop} {F : List Nat} {L : List Chunk} {size : Nat} {f : α → List Value} {l : List α}
theorem own_cell (M : Mem F w0 w L) (i : Nat) (hf : ∀ x, (f x).length = size) {g so n m cap : Nat} (hi : L[i]? = some (.sl size (.slice (some ⟨g, so, none⟩) m cap) n (l.flatMap f))) {k : Nat} {x : α} (hk : l[k]? = some x) {j : Nat} {val : Value} (hv : (f x)[j]? = some val) : w.cell? ⟨g, so + (k * size + j), none⟩ = some val := by
  have hj : j < size := by rw [← hf x]; exact (List.getElem?_eq_some_iff.1 hv).1
  exact M.slCell i hi ((flat_get hf l k x hk j hj).trans hv)
/-- A field of an element of the walk's own slice. -/
theorem w_own (M : Mem F w0 w L) (i : Nat) (hf : ∀ x, (f x).length = size) {g so n m cap : Nat} (hi : L[i]? = some (.sl size (.slice (some ⟨g, so, none⟩) m cap) n (l.flatMap f))) {k : Nat} {x : α} (hk : l[k]? = some x) (t : TypeId) (op : Operand) (ho : o.op = .load t op) {off : Nat} (hx : a.eval op = .pointer (some ⟨g, off, none⟩)) (hw : Region.wanted o (yielded ops a.tmps) = true)
    (ht : scalarT P t = true) (j : Nat) (hoff : off = so + (k * size + j)) {val : Value} (hv : (f x)[j]? = some val) (h : wpList P ops Q rest (a.put o.dst val) w) : wpList P ops Q (o :: rest) a w :=
  wpW hw fun _ hK => by
    subst hoff
    unfold Oper.wp execOp
    simp only [ho, hx, Instr.loadAt, Instr.sureAddr, Sem.run_bind, Sem.run_pure, Result.andThen_ok, run_loadVar_scalar ht w g _ val (own_cell M i hf hi hk hv)]
    exact hK _ _ h
/-- A whole element of it. -/
theorem w_ownA (M : Mem F w0 w L) (i : Nat) (hf : ∀ x, (f x).length = size) {g so n m cap : Nat} (hi : L[i]? = some (.sl size (.slice (some ⟨g, so, none⟩) m cap) n (l.flatMap f))) {k : Nat} {x : α} (hk : l[k]? = some x) (t : TypeId) (op : Operand) (ho : o.op = .load t op) {off : Nat} (hx : a.eval op = .pointer (some ⟨g, off, none⟩)) (hw : Region.wanted o (yielded ops a.tmps) = true)
    (ht : rowT P t = true) (hoff : off = so + k * size) (hn : (P.info? t).map (·.size) = some (f x).length) (h : wpList P ops Q rest (a.put o.dst (.agg (f x).toArray)) w) : wpList P ops Q (o :: rest) a w :=
  wpW hw fun _ hK => by
    subst hoff
    unfold rowT at ht
    cases hu : P.underlying t with
    | none => simp [hu] at ht
    | some d =>
      simp only [hu] at ht
      refine wp_load_mid t op ho g _ hx (f x) d ?_ hu ht hn (hK _ _ h)
      intro j val hv
      rw [Nat.add_assoc]
      exact own_cell M i hf hi hk hv
/-- A whole element of it, as a region's load that may come at any time. -/
theorem stab_ownA (M : Mem F w0 w L) {is : List Nat} (i : Nat) (hf : ∀ x, (f x).length = size) {g so n m cap : Nat} (hi : L[i]? = some (.sl size (.slice (some ⟨g, so, none⟩) m cap) n (l.flatMap f))) (hin : i ∈ is) {k : Nat} {x : α} (hk : l[k]? = some x) {t : TypeId} {op : Operand} (ho : o.op = .load t op) (ht : rowT P t = true) (hn : (P.info? t).map (·.size) = some (f x).length) :
    Stab P (IxOk M is) o (.pointer (some ⟨g, so + k * size, none⟩)) := by
  unfold rowT at ht
  cases hu : P.underlying t with
  | none => simp [hu] at ht
  | some d =>
    simp only [hu] at ht
    refine stab_load ho g _ (f x) d (fun w' hw j val hv => ?_) hu ht hn
    have hj : j < size := by rw [← hf x]; exact (List.getElem?_eq_some_iff.1 hv).1
    have hc := (flat_get hf l k x hk j hj).trans hv
    rw [Nat.add_assoc]
    rcases (hw.2 i hin _ hi).2 with ⟨h0, _⟩ | ⟨g', o', c, hv', _, _, _, _, hr, _⟩
    · cases h0
    · injection hv' with h1 _ _; injection h1 with h1; injection h1 with h1 h2; subst h1; subst h2; exact hr _ val hc
end
end TL
end Go
