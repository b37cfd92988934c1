/- Sides that stand often, each found by a tactic: named once, for shortness. No conditions. -/
import Derived.WalkKit
import Derived.WalkSpells
import Derived.WalkLawsBesides
import Derived.Deep.MidRow
import Derived.Lib.Hide
import Derived.Deep.QuietTactic
import Derived.BigQuiet
import Derived.Deep.DeepMust
import Derived.KernelRfl
import Derived.OrdersHeld
import Derived.ChangeKeysEq
import Derived.Lib.Strings
import Derived.Great.BuildSlice
import Derived.Lib.ConvBytes
import Derived.Lib.Bytealg
import Derived.Lib.IndexLaws
import Derived.Lib.BitFns
import Derived.Shelf.Small.Strs
import Derived.Shelf.Strconv.Itoa0
import Derived.Shelf.Strings.Search1
import Derived.Shelf.Strings.Search2
import Derived.Shelf.Strings.Cut
import Derived.Shelf.LaysM
import Derived.Shelf.Strings.Shaped
import Derived.Shelf.Bits.Mul64
import Derived.Test.YtidadhbaomieiaaGreatProg
import Derived.OwnWalk
import Derived.IntWalk
import Derived.Deep.Cut
import Derived.Defers
import Derived.Laws.LoneSync
import Derived.RegionCalls
import Derived.ChangeAlike
import Derived.Lib.SlBytesConst
import Derived.ProofKit
import Derived.OpenShut
import Derived.ShutString
import Derived.ChangeOld
import Derived.Below
import Derived.Deep.Slices
import Derived.ChangeArms
set_option maxRecDepth 100000
namespace Go
theorem gE {α : Type} : (∀ (l : List α) (i : Nat), l.toArray[i]? = l[i]?) ∧ (∀ (a : α) (l : List α), (a :: l)[0]? = some a) ∧ (∀ (a : α) (l : List α) (i : Nat), (a :: l)[i + 1]? = l[i]?) ∧ (∀ (a d : α), (some a).getD d = a) := ⟨fun _ _ => by simp, fun _ _ => rfl, fun _ _ _ => rfl, fun _ _ => rfl⟩
theorem yA {p : Prop} (h : p := by repeat' (first | exact qFk _ | assumption | refine Mf.set_fit ?_ _ _ | refine Hf.set_fit ?_ (by assumption) _ | refine Ms.fit_bt ?_ _ _ rfl | refine Ms.fit_pv ?_ rfl)) : p := h
theorem yB {p : Prop} (h : p := by decide +kernel) : p := h
theorem yC {p : Prop} (h : p := by first | assumption | exact qAO | exact qAq _ _) : p := h
theorem yD {p : Prop} (h : p := by kernel_rfl) : p := h
theorem yE {p : Prop} (h : p := by first | exact qBr rfl | exact qCm) : p := h
theorem yF {p : Prop} (h : p := by omega) : p := h
theorem yG {p : Prop} (h : p := by first | (with_reducible rfl) | omega) : p := h
theorem yH {p : Prop} (h : p := by first | exact at0 | exact at1 | exact at2 | exact at3 | exact at4 | exact at5 | exact at6 | exact at7 | exact at8) : p := h
theorem yI {p : Prop} (h : p := by exact qBr rfl) : p := h
theorem yJ {p : Prop} (h : p := by first | decide | (intro q hq; simp at hq; subst hq; rfl) | (intro q hq; simp at hq; rcases hq with rfl | rfl; rfl; rfl) | (intro q hq; simp at hq; rcases hq with rfl | rfl | rfl <;> rfl)) : p := h
theorem yK {p : Prop} (h : p := by first | assumption | omega | (simp; omega)) : p := h
theorem yL {p : Prop} (h : p := by first | exact at0) : p := h
theorem yM {p : Prop} (h : p := by first | exact at0 | exact at2) : p := h
theorem yN {p : Prop} (h : p := by decide) : p := h
theorem yO {p : Prop} (h : p := by first | assumption | exact lenI | exact lenS ‹_› | rfl) : p := h
theorem yP {p : Prop} (h : p := by first | exact at0 | exact at1 | exact at2) : p := h
theorem yQ {p : Prop} (h : p := by first | rfl | omega) : p := h
theorem yR {p : Prop} (h : p := by first | exact qBr rfl | rfl) : p := h
theorem yS {p : Prop} (h : p := by first | (simp only [maxLen]; omega) | (simp [maxLen]; omega)) : p := h
theorem yT {p : Prop} (h : p := by rw [zeroM_len]; kernel_rfl) : p := h
theorem yU {p : Prop} (h : p := by with_reducible first | exact N2k.out | exact N2e.out | exact N2a.out | exact N2o.out | exact N2p.out | exact N2v.out | exact N2i.out | exact N2pv.out) : p := h
theorem yV {p : Prop} (h : p := by with_reducible first | exact N1k.out | exact N1e.out | exact N1a.out | exact N1o.out | exact N1p.out | exact N1v.out | exact N1i.out | exact N1pv.out) : p := h
theorem yW {p : Prop} (h : p := by first | omega | (simp; omega)) : p := h
theorem yX {p : Prop} (h : p := by first | exact at2 | exact at3) : p := h
theorem yY {p : Prop} (h : p := by first | exact at0 | exact at1) : p := h
theorem yZ {p : Prop} (h : p := by simp only [maxLen]; omega) : p := h
theorem yA1 {p : Prop} (h : p := by first | assumption | exact qAO) : p := h
theorem yB1 {p : Prop} (h : p := by simp) : p := h
theorem yC1 {p : Prop} (h : p := by simp; omega) : p := h
theorem yD1 {p : Prop} (h : p := by simp [Value.oneCell']) : p := h
theorem yE1 {p : Prop} (h : p := by simpa using h) : p := h
theorem yF1 {p : Prop} (h : p := by rw [qAP, hr]; kernel_rfl) : p := h
theorem yG1 {p : Prop} (h : p := by simp [Chunk.fp]) : p := h
theorem yH1 {p : Prop} (h : p := by rw [qAP, H2rt.out.2.2]; kernel_rfl) : p := h
theorem yI1 {p : Prop} (h : p := by rw [qAP, H2lf.out.2.2]; kernel_rfl) : p := h
theorem yJ1 {p : Prop} (h : p := by rw [qAP, H1rt.out.2.2]; kernel_rfl) : p := h
theorem yK1 {p : Prop} (h : p := by rw [qAP, H1lf.out.2.2]; kernel_rfl) : p := h
theorem yL1 {p : Prop} (h : p := by rw [qAP, H2r.out.2.2]; kernel_rfl) : p := h
theorem yM1 {p : Prop} (h : p := by rw [qAP, H1r.out.2.2]; kernel_rfl) : p := h
theorem yN1 {p : Prop} (h : p := by assumption) : p := h
theorem yO1 {p : Prop} (h : p := by intro i j hi hj; simp at hi hj; rcases (by omega : i = 0 ∨ i = 1 ∨ i = 2) with rfl | rfl | rfl <;> rcases (by omega : j = 0 ∨ j = 1 ∨ j = 2) with rfl | rfl | rfl <;> simp) : p := h
end Go
