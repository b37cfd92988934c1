/- The walk of layer 18's reference's Read. Conditions: lengths. -/
import Derived.Test.YtoaabclemeibhaaVRef18O
import Derived.Test.YtoaabclemeibhaaVRef18N
import Derived.Test.YtoaabclemeibhaaZd
import Derived.Test.YtoaabclemeibhaaVBatS
namespace Go
namespace TL
open Go.RowKit
def runR : List Fld → Lm → InS → Lm × InS
  | [], L, x => (L, x)
  | f :: l, L, x => runR l (f.get L x).2.1 (f.get L x).2.2
def goodR : List Fld → Lm → InS → Prop
  | [], _, _ => True
  | f :: l, L, x => ((f.get L x).2.2.err = 0 → (f.get L x).1 = 0) ∧ goodR l (f.get L x).2.1 (f.get L x).2.2
theorem Fld.get_stop {x : InS} (h : x.err ≠ 0) (f : Fld) (L : Lm) : (f.get L x).2.2 = x := by
  cases f with
  | num q => simp only [Fld.get]; rw [InS.most_err h]
  | hash q => simp only [Fld.get]; exact hashS_err _ h 32
  | bat => rw [Fld.bat_get (InS.text_err h 512), if_neg h]
  | prs => simp only [Fld.get]; rw [InS.most_err h]; rfl
theorem runR_stop {x : InS} (h : x.err ≠ 0) : ∀ (l : List Fld) (L : Lm), (runR l L x).2 = x
  | [], _ => rfl
  | f :: l, L => by
    have e := f.get_stop h L
    rw [runR, e]
    exact runR_stop h l _
theorem runF_R : ∀ (l : List Fld) (L : Lm) (x : InS), x.err = 0 → goodR l L x → ((runR l L x).2.err = 0 → runF l L x = (0, runR l L x)) ∧ ((runR l L x).2.err ≠ 0 → (runF l L x).1 = (runR l L x).2.err)
  | [], L, x, hx, _ => ⟨fun _ => rfl, fun h => absurd hx h⟩
  | f :: l, L, x, _, hg => by
    obtain ⟨h0, hg⟩ := hg
    rw [runR]
    obtain ⟨⟨r, A, y⟩, e⟩ : ∃ R, R = f.get L x := ⟨_, rfl⟩
    rw [← e] at h0 hg ⊢
    simp only at h0 hg ⊢
    by_cases hy : y.err = 0
    · have ih := runF_R l A y hy hg
      rw [runF_go e.symm (h0 hy) hy]
      exact ih
    · rw [runR_stop hy, runF_err e.symm hy]
      exact ⟨fun h => absurd h hy, fun _ => rfl⟩
theorem readM_R {s : List UInt8} {kb : UInt8} {y : InS} (h : (inStart s).byte = (kb.toNat, y)) (hy : y.err = 0) (hk : isK kb = true) {L : Lm} {x : InS} (hR : runR (fdsL kb) (kindL kb) y = (L, x)) (hg : goodR (fdsL kb) (kindL kb) y) :
    readM s = if x.err = 0 then (if x.rest = [] then (L, 0) else (zeroL, 8)) else (zeroL, x.err) := by
  obtain ⟨h1, h2⟩ := runF_R (fdsL kb) (kindL kb) y hy hg
  rw [hR] at h1 h2
  simp only at h1 h2
  by_cases hx : x.err = 0
  · rw [readM_run h hy hk 0 L x (h1 hx), if_pos rfl, if_pos hx]
    by_cases hr : x.rest = []
    · rw [if_pos hr, if_pos]
      unfold InS.fin; rw [if_pos hx, hr]; rfl
    · have hf : x.fin = 8 := by unfold InS.fin; rw [if_pos hx, if_neg (by simpa using hr)]
      rw [if_neg hr, hf, if_neg (by decide)]
  · obtain ⟨⟨r, A, z⟩, e⟩ : ∃ R, R = runF (fdsL kb) (kindL kb) y := ⟨_, rfl⟩
    have h3 := h2 hx
    rw [← e] at h3
    simp only at h3
    rw [readM_run h hy hk r A z e.symm, if_neg hx, if_neg (by rw [h3]; exact hx), h3]
theorem runR_num {q : Mf} {l : List Fld} {L : Lm} {x x' : InS} {n : Nat} (h : (n, x') = x.most q.most) : runR (.num q :: l) L x = runR l (q.sl L (n : Int)) x' := by rw [runR]; simp only [Fld.get]; rw [← h]
theorem runR_hash {q : Hf} {l : List Fld} {L : Lm} {x x' : InS} {d : List UInt8} (h : (x', d) = hashS zeroH x 32) (hz : q.gl L = zeroH) : runR (.hash q :: l) L x = runR l (q.sl L d) x' := by
  rw [runR]; simp only [Fld.get]; rw [hz, ← h]
theorem runR_prs {l : List Fld} {L : Lm} {x x' : InS} {n : Nat} (h : (n, x') = x.most 48) : runR (.prs :: l) L x = runR l { L with prs := L.prs ++ (prS x' n).1 } (prS x' n).2 := by rw [runR]; simp only [Fld.get]; rw [← h]
theorem runR_bat {l : List Fld} {L : Lm} {x x' : InS} {t : List UInt8} (h : (t, x') = x.text 512) (hx : x'.err = 0) : runR (.bat :: l) L x = runR l { L with bi := (readB t).1.1, be := (readB t).1.2.1, ops := (readB t).1.2.2 } x' := by
  rw [runR, Fld.bat_get h.symm, if_pos hx]
theorem runR_bate {l : List Fld} {L : Lm} {x x' : InS} {t : List UInt8} (h : (t, x') = x.text 512) (hx : x'.err ≠ 0) : runR (.bat :: l) L x = runR l L x' := by
  rw [runR, Fld.bat_get h.symm, if_neg hx]
theorem runR_nil (L : Lm) (x : InS) : runR [] L x = (L, x) := rfl
theorem goodR_num {q : Mf} {l : List Fld} {L : Lm} {x x' : InS} {n : Nat} (h : (n, x') = x.most q.most) (hg : goodR l (q.sl L (n : Int)) x') : goodR (.num q :: l) L x := by
  refine ⟨fun _ => rfl, ?_⟩
  simp only [Fld.get]; rw [← h]; exact hg
theorem goodR_hash {q : Hf} {l : List Fld} {L : Lm} {x x' : InS} {d : List UInt8} (h : (x', d) = hashS zeroH x 32) (hz : q.gl L = zeroH) (hg : goodR l (q.sl L d) x') : goodR (.hash q :: l) L x := by
  refine ⟨fun _ => rfl, ?_⟩
  simp only [Fld.get]; rw [hz, ← h]; exact hg
theorem goodR_prs {L : Lm} {x : InS} : goodR [.prs] L x := ⟨fun _ => rfl, trivial⟩
theorem goodR_bat {L : Lm} {x x' : InS} {t : List UInt8} (h : (t, x') = x.text 512) (hg : x'.err = 0 → (readB t).2 = 0) : goodR [.bat] L x := by
  refine ⟨fun he => ?_, trivial⟩
  by_cases hx : x'.err = 0
  · rw [Fld.bat_get h.symm, if_pos hx]; exact hg hx
  · rw [Fld.bat_get h.symm, if_neg hx] at he; exact absurd he hx
theorem readM_bat {s : List UInt8} {y : InS} (h : (inStart s).byte = ((2 : UInt8).toNat, y)) (hy : y.err = 0) {n1 n2 : Nat} {x1 x2 x3 : InS} {t : List UInt8} (T1 : (n1, x1) = y.most 9223372036854775807) (T2 : (n2, x2) = x1.most 9223372036854775807) (T3 : (t, x3) = x2.text 512) (h3 : x3.err = 0) {r : Nat} (hr : (readB t).2 = r) (hr0 : r ≠ 0) : readM s = (zeroL, r) := by
  have h2 : x2.err = 0 := text_err0 (m := 512) (by rw [← T3]; exact h3)
  have h1 : x1.err = 0 := most_err0 (m := 9223372036854775807) (by rw [← T2]; exact h2)
  have g1 : (Fld.num .e).get (kindL 2) y = (0, Mf.e.sl (kindL 2) (n1 : Int), x1) := by
    show (0, Mf.e.sl (kindL 2) ((y.most 9223372036854775807).1 : Int), (y.most 9223372036854775807).2) = _
    rw [← T1]
  have g2 : (Fld.num .p).get (Mf.e.sl (kindL 2) (n1 : Int)) x1 = (0, Mf.p.sl (Mf.e.sl (kindL 2) (n1 : Int)) (n2 : Int), x2) := by
    show (0, Mf.p.sl (Mf.e.sl (kindL 2) (n1 : Int)) ((x1.most 9223372036854775807).1 : Int), (x1.most 9223372036854775807).2) = _
    rw [← T2]
  obtain ⟨⟨r', A, z⟩, e⟩ : ∃ R, R = Fld.bat.get (Mf.p.sl (Mf.e.sl (kindL 2) (n1 : Int)) (n2 : Int)) x2 := ⟨_, rfl⟩
  have e' := e
  rw [Fld.bat_get T3.symm, if_pos h3] at e'
  simp only [Prod.mk.injEq] at e'
  obtain ⟨e1, e2, e3⟩ := e'
  have hrun : runF (fdsL 2) (kindL 2) y = (r', A, z) := by
    show runF [.num .e, .num .p, .bat] (kindL 2) y = _
    rw [runF_go g1 rfl h1, runF_go g2 rfl h2, runF_say e.symm (by rw [e1, hr]; exact hr0) (by rw [e3]; exact h3)]
  rw [readM_run h hy (by decide) r' A z hrun, if_neg (by rw [e1, hr]; exact hr0), e1, hr]
end TL
end Go
