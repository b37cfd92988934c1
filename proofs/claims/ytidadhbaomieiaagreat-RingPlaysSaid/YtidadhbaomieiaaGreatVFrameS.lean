/- What the statements' frames lean on where a slice of structs comes in: it is seen, element by element. No conditions but those each lemma names. -/
import Derived.Test.YtidadhbaomieiaaGreatZe
import Derived.Test.YtidadhbaomieiaaGreatVSees
import Derived.Deep.Slices
import Derived.ChangeArms
namespace Go
namespace TL
open Go.RowKit Go.ChangeShapes Go.WideShapes Go.Deep
theorem listOf {α : Type} {p : Nat → α → Prop} : ∀ n : Nat, (∀ i, i < n → ∃ x, p i x) → ∃ l : List α, l.length = n ∧ ∀ (i : Nat) (x : α), l[i]? = some x → p i x
  | 0, _ => ⟨[], rfl, fun i x h => by simp at h⟩
  | n + 1, h => by
    obtain ⟨l, h1, h2⟩ := listOf n fun i hi => h i (by omega)
    obtain ⟨x, hx⟩ := h n (by omega)
    refine ⟨l ++ [x], by simp [h1], fun i y hy => ?_⟩
    by_cases hi : i < n
    · rw [List.getElem?_append_left (by omega)] at hy; exact h2 i y hy
    · have hi' : i = n := by
        have := (List.getElem?_eq_some_iff.1 hy).1
        simp at this; omega
      subst hi'
      rw [List.getElem?_append_right (by omega), h1] at hy
      simp at hy; subst hy; exact hx
theorem lt_of_shape {w : World} {g : Nat} {x : TypeId × Nat} (h : w.shape? g = some x) : g < w.heap.size := by
  unfold World.shape? at h
  cases e : w.heap[g]? with
  | none => rw [e] at h; simp at h
  | some o => exact (Array.getElem?_eq_some_iff.1 e).1
section
variable {H : Type} {enc : TypeId × Value → H} {P : Program} {w : World} {base : Nat} {spare : Nat → Bool} {held : Bool}
/-- A slice's shape, told by its type. -/
theorem slice_shape {r : Reach} {b0 : Nat} {t e : TypeId} {v : Value} (ht : P.underlying t = some (.slice e)) (hv : Value.okWide P w r b0 t v) : v = .slice none 0 0 ∨ ∃ a len cap, v = .slice (some a) len cap ∧ a.spot = none ∧ a.block < w.heap.size := by
  unfold Value.okWide at hv
  rw [ht] at hv
  have hv : Cell.ok P w r b0 t v := by
    unfold Cell.okWide at hv
    rw [ht] at hv
    exact hv
  unfold Cell.ok at hv
  rw [ht] at hv
  split at hv <;> simp_all
  obtain ⟨_, _, h⟩ := hv
  unfold World.has at h
  obtain ⟨_, hs, row, cells, hsh, _⟩ := h
  exact ⟨hs, lt_of_shape hsh⟩
theorem open_sl {α : Type} {f : α → List Value} {size : Nat} {good : α → Prop} {r : Reach} {b0 : Nat} {t e : TypeId} {v : Value} {d : DataW H} {p : List MemPlace} (ht : P.underlying t = some (.slice e)) (hc : P.cellsOf e = size) (hpos : 0 < size) (hf : ∀ x, (f x).length = size)
    (hdec : ∀ n cs y, cs.length = size → DataW.trod enc P w base spare held n e cs = some y → ∃ x, cs = f x ∧ good x) (hv : Value.okWide P w r b0 t v) (h : DataW.Trod enc P w base spare held t v d p) : ∃ l : List α, SeesL w size f v l ∧ ∀ x ∈ l, good x := by
  obtain ⟨fuel, hh⟩ := h
  rcases slice_shape ht hv with rfl | ⟨⟨g, o, s⟩, len, cap, rfl, hs, hlt⟩
  · exact ⟨[], seesL_nil size f hf w, by simp⟩
  · simp only at hs hlt; subst hs
    rcases open_slice ht hh with ⟨h0, _⟩ | ⟨a, len', cap', m, n, D, Pl, hcs, hb, hl, hm, hmm, hx, hi⟩
    · simp [Value.cells] at h0
    · simp only [Value.cells, List.cons.injEq, and_true, Value.slice.injEq, Option.some.injEq] at hcs
      obtain ⟨rfl, rfl, rfl⟩ := hcs
      have hlm : len ≤ m := by rw [hmm]; split <;> omega
      obtain ⟨l, h1, h2⟩ := listOf (p := fun i x => good x ∧ ∀ j, j < size → w.cell? ⟨g, o + (i * size + j), none⟩ = (f x)[j]?) len fun i hil => by
        obtain ⟨cs, hcells, htrod⟩ := hi i (by omega)
        rw [hc] at hcells
        obtain ⟨_, hlen, hat⟩ := World.cells?_some hcells
        obtain ⟨x, rfl, hg⟩ := hdec n cs _ hlen htrod
        refine ⟨x, hg, fun j hj => ?_⟩
        rw [← hat j hj]
        congr 1
        unfold Addr.add
        by_cases hi0 : i * size = 0 <;> by_cases hj0 : j = 0 <;> simp [hi0, hj0]
        omega
      refine ⟨l, ⟨⟨by rw [flat_len hf], .inr ⟨g, o, cap, by rw [h1], hlt, by omega, hm, ?_⟩⟩, hf⟩, fun x hx => ?_⟩
      · intro j v hv
        have hjl : j < l.length * size := by have := (List.getElem?_eq_some_iff.1 hv).1; rwa [flat_len hf] at this
        have hk : j / size < l.length := Nat.div_lt_of_lt_mul (by rw [Nat.mul_comm]; exact hjl)
        obtain ⟨x, hx⟩ : ∃ x, l[j / size]? = some x := ⟨_, List.getElem?_eq_getElem hk⟩
        have hmod : j % size < size := Nat.mod_lt _ hpos
        have e : j / size * size + j % size = j := by rw [Nat.mul_comm]; exact Nat.div_add_mod j size
        have := (h2 _ x hx).2 (j % size) hmod
        rw [e] at this
        rw [this, ← flat_get hf l (j / size) x hx (j % size) hmod, e]
        exact hv
      · obtain ⟨k, hk⟩ := List.getElem?_of_mem hx
        exact (h2 k x hk).1
/-- A struct of two texts. -/
theorem dec_pr {e : TypeId} {f0 f1 : Field} (he : P.underlying e = some (.struct #[f0, f1])) (h0 : P.underlying f0.type = some .string) (h1 : P.underlying f1.type = some .string) (o0 : f0.offset = 0) (o1 : f1.offset = 1) (c0 : P.cellsOf f0.type = 1) (c1 : P.cellsOf f1.type = 1) :
    ∀ n cs y, cs.length = 2 → DataW.trod enc P w base spare held n e cs = some y → ∃ x : List UInt8 × List UInt8, cs = prV x ∧ (x.1.length ≤ maxLen ∧ x.2.length ≤ maxLen) := by
  intro n cs y hl h
  obtain ⟨xs, m, _, _, _, hxl, hg⟩ := DataW.trod_struct he h
  match cs, hl with
  | [a, b], _ =>
    match xs, hxl with
    | [x0, x1], _ =>
      have g0 := hg 0 f0 rfl
      have g1 := hg 1 f1 rfl
      rw [o0, c0] at g0
      rw [o1, c1] at g1
      obtain ⟨s, hs, _, hsl⟩ := DataW.trod_string h0 g0
      obtain ⟨u, hu, _, hul⟩ := DataW.trod_string h1 g1
      simp at hs hu
      obtain ⟨ls, rfl⟩ := mkS_of s
      obtain ⟨lu, rfl⟩ := mkS_of u
      rw [mkS_size] at hsl hul
      exact ⟨(ls, lu), by rw [hs, hu]; rfl, hsl, hul⟩
end
end TL
end Go
