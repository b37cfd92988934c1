/- What the frames of layer 6's statements lean on: slices of acts, of texts and of bytes. No conditions but those each lemma names. -/
import Derived.Test.YtidadhbaomieiaaGreatVFrameS
import Derived.Test.YtidadhbaomieiaaGreatVRingP
namespace Go
namespace TL
open Go.RowKit Go.ChangeShapes Go.WideShapes Go.Deep
section
variable {H : Type} {enc : TypeId × Value → H} {P : Program} {w : World} {base : Nat} {spare : Nat → Bool} {held : Bool}
/-- A struct of an int, three texts and an int. -/
theorem dec_ac {e : TypeId} {f0 f1 f2 f3 f4 : Field} (he : P.underlying e = some (.struct #[f0, f1, f2, f3, f4])) (h0 : P.underlying f0.type = some (.int .i64)) (h1 : P.underlying f1.type = some .string) (h2 : P.underlying f2.type = some .string) (h3 : P.underlying f3.type = some .string) (h4 : P.underlying f4.type = some (.int .i64))
    (o0 : f0.offset = 0) (o1 : f1.offset = 1) (o2 : f2.offset = 2) (o3 : f3.offset = 3) (o4 : f4.offset = 4) (c0 : P.cellsOf f0.type = 1) (c1 : P.cellsOf f1.type = 1) (c2 : P.cellsOf f2.type = 1) (c3 : P.cellsOf f3.type = 1) (c4 : P.cellsOf f4.type = 1) :
    ∀ n cs y, cs.length = 5 → DataW.trod enc P w base spare held n e cs = some y → ∃ x : ActS, cs = acV x ∧ (-9223372036854775808 ≤ x.back ∧ x.back ≤ 9223372036854775807) := by
  intro n cs y hl h
  obtain ⟨xs, m, _, _, _, hxl, hg⟩ := DataW.trod_struct he h
  match cs, hl with
  | [a, b, c, d, f], _ =>
    match xs, hxl with
    | [x0, x1, x2, x3, x4], _ =>
      have g0 := hg 0 f0 rfl
      have g1 := hg 1 f1 rfl
      have g2 := hg 2 f2 rfl
      have g3 := hg 3 f3 rfl
      have g4 := hg 4 f4 rfl
      rw [o0, c0] at g0
      rw [o1, c1] at g1
      rw [o2, c2] at g2
      rw [o3, c3] at g3
      rw [o4, c4] at g4
      obtain ⟨k, hk, _, _⟩ := DataW.trod_int h0 g0
      obtain ⟨s, hs, _, _⟩ := DataW.trod_string h1 g1
      obtain ⟨u, hu, _, _⟩ := DataW.trod_string h2 g2
      obtain ⟨v, hv, _, _⟩ := DataW.trod_string h3 g3
      obtain ⟨r, hr, _, hw⟩ := DataW.trod_int h4 g4
      simp at hk hs hu hv hr
      obtain ⟨ls, rfl⟩ := mkS_of s
      obtain ⟨lu, rfl⟩ := mkS_of u
      obtain ⟨lv, rfl⟩ := mkS_of v
      have hb : IntKind.i64.min ≤ r ∧ r ≤ IntKind.i64.max := by simpa [Lit.wf] using hw
      rw [show IntKind.i64.min = -9223372036854775808 from by decide, show IntKind.i64.max = 9223372036854775807 from by decide] at hb
      exact ⟨⟨k, ls, lu, lv, r⟩, by rw [hk, hs, hu, hv, hr]; rfl, hb⟩
/-- A text. -/
theorem dec_st {e : TypeId} (he : P.underlying e = some .string) : ∀ n cs y, cs.length = 1 → DataW.trod enc P w base spare held n e cs = some y → ∃ x : List UInt8, cs = stV x ∧ x.length ≤ maxLen := by
  intro n cs y hl h
  obtain ⟨s, hs, _, hsl⟩ := DataW.trod_string he h
  obtain ⟨ls, rfl⟩ := mkS_of s
  rw [mkS_size] at hsl
  exact ⟨ls, hs, hsl⟩
/-- A byte. -/
theorem dec_u8 {e : TypeId} (he : P.underlying e = some (.int .u8)) : ∀ n cs y, cs.length = 1 → DataW.trod enc P w base spare held n e cs = some y → ∃ x : UInt8, cs = u8V x ∧ True := by
  intro n cs y hl h
  obtain ⟨k, hk, _, hw⟩ := DataW.trod_int he h
  obtain ⟨q, rfl⟩ := wf_u8 hw
  exact ⟨q, hk, trivial⟩
end
end TL
end Go
