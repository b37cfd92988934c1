/- Frames of statements about envelopes. No conditions but those each lemma names. -/
import Derived.Test.YtjlkiopncclomaaZg
import Derived.Test.YtjlkiopncclomaaZf
namespace Go
namespace TL
open Go.RowKit Go.ChangeShapes Go.WideShapes
theorem wf_int {a : Int} (h : (Lit.int .i64 a).wf = true) : -9223372036854775808 ≤ a ∧ a ≤ 9223372036854775807 := by
  have hb : IntKind.i64.min ≤ a ∧ a ≤ IntKind.i64.max := by simpa [Lit.wf] using h
  have h0 : IntKind.i64.min = -9223372036854775808 := by decide
  have h1 : IntKind.i64.max = 9223372036854775807 := by decide
  rw [h0, h1] at hb
  exact hb
section
variable {H : Type} {enc : TypeId × Value → H} {P : Program} {w : World} {base : Nat} {spare : Nat → Bool} {held : Bool}
/-- An envelope that comes in. -/
theorem open_en {r : Reach} {b0 : Nat} {t e : TypeId} {v : Value} {d : DataW H} {p : List MemPlace} {f0 f1 f2 f3 f4 : Field} (ht : P.underlying t = some (.struct #[f0, f1, f2, f3, f4])) (h0 : P.underlying f0.type = some (.int .i64)) (h1 : P.underlying f1.type = some (.int .u32)) (h2 : P.underlying f2.type = some (.int .u64)) (h3 : P.underlying f3.type = some .string) (h4 : P.underlying f4.type = some (.array 32 e)) (he : P.underlying e = some (.int .u8))
    (o0 : f0.offset = 0) (o1 : f1.offset = 1) (o2 : f2.offset = 2) (o3 : f3.offset = 3) (o4 : f4.offset = 4) (c0 : P.cellsOf f0.type = 1) (c1 : P.cellsOf f1.type = 1) (c2 : P.cellsOf f2.type = 1) (c3 : P.cellsOf f3.type = 1) (c4 : P.cellsOf f4.type = 32) (ce : P.cellsOf e = 1) (hct : P.cellsOf t = 36)
    (hv : Value.okWide P w r b0 t v) (h : DataW.Trod enc P w base spare held t v d p) :
    ∃ (k : Int) (b : UInt32) (n : UInt64) (l tg : List UInt8), v = .agg (envC k b n l tg).toArray ∧ (-9223372036854775808 ≤ k ∧ k ≤ 9223372036854775807) ∧ l.length ≤ maxLen ∧ tg.length = 32 := by
  simp only [Value.okWide, ht] at hv
  obtain ⟨cs, rfl, hsz, _⟩ := hv
  obtain ⟨fuel, hf⟩ := h
  obtain ⟨xs, m, _, _, _, hxl, hg⟩ := DataW.trod_struct ht hf
  rw [hct] at hsz
  obtain ⟨cl⟩ := cs
  match cl, hsz with
  | a :: b :: c :: d' :: rest, hsz =>
    have hrl : rest.length = 32 := by simp at hsz; omega
    match xs, hxl with
    | [x0, x1, x2, x3, x4], _ =>
      have g0 := hg 0 f0 rfl
      have g1 := hg 1 f1 rfl
      have g2 := hg 2 f2 rfl
      have g3 := hg 3 f3 rfl
      have g4 := hg 4 f4 rfl
      rw [o0, c0] at g0
      rw [o1, c1] at g1
      rw [o2, c2] at g2
      rw [o3, c3] at g3
      rw [o4, c4] at g4
      obtain ⟨i, hi, _, wi⟩ := DataW.trod_int h0 g0
      obtain ⟨j, hj, _, wj⟩ := DataW.trod_int h1 g1
      obtain ⟨u, hu, _, wu⟩ := DataW.trod_int h2 g2
      obtain ⟨s, hs, _, hsl⟩ := DataW.trod_string h3 g3
      have ha : a = .int .i64 i := by simpa [Value.cells] using hi
      have hb : b = .int .u32 j := by simpa [Value.cells] using hj
      have hc : c = .int .u64 u := by simpa [Value.cells] using hu
      have hd : d' = .string s := by simpa [Value.cells] using hs
      subst ha; subst hb; subst hc; subst hd
      obtain ⟨jb, rfl⟩ := wf_u32 wj
      obtain ⟨un, rfl⟩ := wf_u64 wu
      obtain ⟨ls, rfl⟩ := mkS_of s
      rw [mkS_size] at hsl
      have g4' : DataW.trod enc P w base spare held m f4.type rest = some x4 := by
        have e : ((Value.agg ⟨.int .i64 i :: .int .u32 (I32 jb) :: .int .u64 (I64 un) :: .string (mkS ls) :: rest⟩).cells.toList.drop 4).take 32 = rest := by
          show rest.take 32 = rest
          exact List.take_of_length_le (by omega)
        rw [← e]; exact g4
      obtain ⟨ys, m', _, _, _, hyl, hy⟩ := DataW.trod_array h4 g4'
      obtain ⟨l, hl1, hl2⟩ := eq_of_cells (n := 32) rest (fun i hin => by
        have h5 := hy i hin
        rw [ce, Nat.mul_one, List.getElem?_eq_getElem (by omega)] at h5
        obtain ⟨k, h6, _, h7⟩ := DataW.trod_int he h5
        obtain ⟨x, rfl⟩ := wf_u8 h7
        exact ⟨x, h6⟩) hrl
      exact ⟨i, jb, un, ls, l, by rw [hl2]; rfl, wf_int wi, hsl, hl1⟩
end
end TL
end Go
