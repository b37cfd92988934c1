/- Slices of structs, as the walk reads them, by elements. No conditions but those each law names. -/
import Derived.Test.YtidadhbaomieiaaGreatZb
namespace Go
namespace TL
open Go.RowKit
theorem flat_len {α : Type} {f : α → List Value} {size : Nat} (hf : ∀ x, (f x).length = size) (l : List α) : (l.flatMap f).length = l.length * size := by
  induction l with
  | nil => simp
  | cons a l ih => simp only [List.flatMap_cons, List.length_append, ih, hf, List.length_cons, Nat.succ_mul]; omega
theorem flat_get {α : Type} {f : α → List Value} {size : Nat} (hf : ∀ x, (f x).length = size) : ∀ (l : List α) (k : Nat) (x : α), l[k]? = some x → ∀ j, j < size → (l.flatMap f)[k * size + j]? = (f x)[j]?
  | [], k, x, h, _, _ => by simp at h
  | a :: l, 0, x, h, j, hj => by
    simp only [List.getElem?_cons_zero, Option.some.injEq] at h; subst h
    rw [List.flatMap_cons, Nat.zero_mul, Nat.zero_add, List.getElem?_append_left (by rw [hf]; exact hj)]
  | a :: l, k + 1, x, h, j, hj => by
    rw [List.flatMap_cons, List.getElem?_append_right (by rw [hf, Nat.succ_mul]; omega), hf, Nat.succ_mul, show k * size + size + j - size = k * size + j by omega]
    exact flat_get hf l k x (by simpa using h) j hj
/-- A slice's elements, seen: each is a row of 'size' cells. -/
structure SeesL {α : Type} (w : World) (size : Nat) (f : α → List Value) (v : Value) (l : List α) : Prop where
  sees : Sees w size v l.length (l.flatMap f)
  size : ∀ x, (f x).length = size
section
variable {α : Type} {P : Program} {ops : Array Oper} {rest : List Oper} {o : Oper} {a : Act} {w w0 : World} {Q : Exit → Act → World → Prop} {L : List Chunk} {size : Nat} {f : α → List Value} {v : Value} {l : List α}
theorem SeesL.form (S : SeesL w size f v l) : ∃ p cap, v = .slice p l.length cap ∧ l.length ≤ cap := S.sees.form
theorem SeesL.addr {p : Option Addr} {n cap : Nat} (S : SeesL w size f (.slice p n cap) l) (h : 0 < l.length) : ∃ g so, p = some ⟨g, so, none⟩ := by
  rcases S.sees.2 with ⟨_, h0⟩ | ⟨g, so, c, hv, _⟩
  · omega
  · injection hv with h1 h2 h3; exact ⟨g, so, h1⟩
theorem SeesL.cell {g so n cap : Nat} (S : SeesL w size f (.slice (some ⟨g, so, none⟩) n cap) l) {k : Nat} {x : α} (hk : l[k]? = some x) {j : Nat} {val : Value} (hv : (f x)[j]? = some val) : w.cell? ⟨g, so + (k * size + j), none⟩ = some val := by
  have hj : j < size := by rw [← S.size x]; exact (List.getElem?_eq_some_iff.1 hv).1
  rcases S.sees.2 with ⟨h0, _⟩ | ⟨g', o', c, hv', _, _, _, hr⟩
  · cases h0
  · injection hv' with h1 _ _; injection h1 with h1; injection h1 with h1 h2; subst h1; subst h2
    exact hr _ _ ((flat_get S.size l k x hk j hj).trans hv)
theorem SeesL.kept {G : List Nat} {w' : World} (S : SeesL w size f v l) (h : Kept G w w') (hG : ∀ k, v.ownBlock = some k → k ∉ G) : SeesL w' size f v l := by
  refine ⟨⟨S.sees.1, S.sees.2.imp id ?_⟩, S.size⟩
  rintro ⟨g, so, cap, rfl, hlt, hn, hc, hr⟩
  exact ⟨g, so, cap, rfl, Nat.lt_of_lt_of_le hlt h.size, hn, hc, rangeAt_of_block hr (h.block g hlt (hG g rfl))⟩
theorem SeesL.below {w' : World} (S : SeesL w size f v l) (h : Below w.heap.size w w') : SeesL w' size f v l := S.kept (Kept.of_below h []) (by simp)
theorem SeesL.now (M : Mem [] w0 w L) (S : SeesL w0 size f v l) : SeesL w size f v l := S.kept M.kept (by simp)
theorem seesL_nil (size : Nat) (f : α → List Value) (hf : ∀ x, (f x).length = size) (w : World) : SeesL w size f (.slice none 0 0) [] := ⟨Sees_nil _ _, hf⟩
/-- A piece of the walk's own, seen. -/
theorem SeesL.own {F : List Nat} (M : Mem F w0 w L) (i : Nat) {n : Nat} (hi : L[i]? = some (.sl size v n (l.flatMap f))) (hn : n = l.length) (hf : ∀ x, (f x).length = size) : SeesL w size f v l := by
  subst hn; exact ⟨Own.sees (M.ok i _ hi), hf⟩
/-- A field of an element. -/
theorem w_see (M : Mem [] w0 w L) {g so n cap : Nat} (S : SeesL w0 size f (.slice (some ⟨g, so, none⟩) n cap) l) {k : Nat} {x : α} (hk : l[k]? = some x) (t : TypeId) (op : Operand) (ho : o.op = .load t op) {off : Nat} (hx : a.eval op = .pointer (some ⟨g, off, none⟩)) (hw : Region.wanted o (yielded ops a.tmps) = true)
    (ht : scalarT P t = true) (j : Nat) (hoff : off = so + (k * size + j)) {val : Value} (hv : (f x)[j]? = some val) (h : wpList P ops Q rest (a.put o.dst val) w) : wpList P ops Q (o :: rest) a w :=
  wpW hw fun _ hK => by
    subst hoff
    unfold Oper.wp execOp
    simp only [ho, hx, Instr.loadAt, Instr.sureAddr, Sem.run_bind, Sem.run_pure, Result.andThen_ok, run_loadVar_scalar ht w g _ val ((S.now M).cell hk hv)]
    exact hK _ _ h
/-- A whole element. -/
theorem w_seeA (M : Mem [] w0 w L) {g so n cap : Nat} (S : SeesL w0 size f (.slice (some ⟨g, so, none⟩) n cap) l) {k : Nat} {x : α} (hk : l[k]? = some x) (t : TypeId) (op : Operand) (ho : o.op = .load t op) {off : Nat} (hx : a.eval op = .pointer (some ⟨g, off, none⟩)) (hw : Region.wanted o (yielded ops a.tmps) = true)
    (ht : rowT P t = true) (hoff : off = so + k * size) (hn : (P.info? t).map (·.size) = some (f x).length) (h : wpList P ops Q rest (a.put o.dst (.agg (f x).toArray)) w) : wpList P ops Q (o :: rest) a w :=
  wpW hw fun _ hK => by
    subst hoff
    unfold rowT at ht
    cases hu : P.underlying t with
    | none => simp [hu] at ht
    | some d =>
      simp only [hu] at ht
      refine wp_load_mid t op ho g _ hx (f x) d ?_ hu ht hn (hK _ _ h)
      intro j val hv
      rw [Nat.add_assoc]
      exact (S.now M).cell hk hv
/-- A field of an element, as a region's load that may come at any time. -/
theorem stab_see (M : Mem [] w0 w L) {is : List Nat} {g so n cap : Nat} (S : SeesL w0 size f (.slice (some ⟨g, so, none⟩) n cap) l) {k : Nat} {x : α} (hk : l[k]? = some x) (j : Nat) {t : TypeId} {op : Operand} (ho : o.op = .load t op) (ht : scalarT P t = true) {val : Value} (hv : (f x)[j]? = some val) :
    Stab P (IxOk M is) o (.pointer (some ⟨g, so + (k * size + j), none⟩)) := by
  unfold Stab; rw [ho]
  refine ⟨val, fun w' hw => ?_⟩
  simp only [Instr.loadAt, Instr.sureAddr, Sem.run_bind, Sem.run_pure, Result.andThen_ok, run_loadVar_scalar ht w' g _ val ((S.kept hw.1 (by simp)).cell hk hv)]
theorem stab_seeA (M : Mem [] w0 w L) {is : List Nat} {g so n cap : Nat} (S : SeesL w0 size f (.slice (some ⟨g, so, none⟩) n cap) l) {k : Nat} {x : α} (hk : l[k]? = some x) {t : TypeId} {op : Operand} (ho : o.op = .load t op) (ht : rowT P t = true) (hn : (P.info? t).map (·.size) = some (f x).length) :
    Stab P (IxOk M is) o (.pointer (some ⟨g, so + k * size, none⟩)) := by
  unfold rowT at ht
  cases hu : P.underlying t with
  | none => simp [hu] at ht
  | some d =>
    simp only [hu] at ht
    refine stab_load ho g _ (f x) d (fun w' hw j val hv => ?_) hu ht hn
    rw [Nat.add_assoc]
    exact (S.kept hw.1 (by simp)).cell hk hv
end
/-- A pair's cells. -/
def prV (x : List UInt8 × List UInt8) : List Value := [.string (mkS x.1), .string (mkS x.2)]
@[go_sem] theorem prV_eq (a b : List UInt8) : prV (a, b) = [.string (mkS a), .string (mkS b)] := rfl
theorem prV_len (x : List UInt8 × List UInt8) : (prV x).length = 2 := rfl
end TL
end Go
