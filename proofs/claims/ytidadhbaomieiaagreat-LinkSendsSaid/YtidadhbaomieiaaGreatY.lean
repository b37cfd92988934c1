/- Sides that stand often, each found by a tactic: named once, for shortness. No conditions. -/
import Derived.WalkKit
import Derived.WalkSpells
import Derived.WalkLawsBesides
import Derived.Deep.MidRow
import Derived.Lib.Hide
import Derived.Deep.QuietTactic
import Derived.BigQuiet
import Derived.Deep.DeepMust
import Derived.KernelRfl
import Derived.OrdersHeld
import Derived.ChangeKeysEq
import Derived.Lib.Strings
import Derived.Great.BuildSlice
import Derived.Lib.ConvBytes
import Derived.Lib.Bytealg
import Derived.Lib.IndexLaws
import Derived.Lib.BitFns
import Derived.Shelf.Small.Strs
import Derived.Shelf.Strconv.Itoa0
import Derived.Shelf.Strings.Search1
import Derived.Shelf.Strings.Search2
import Derived.Shelf.Strings.Cut
import Derived.Shelf.LaysM
import Derived.Shelf.Strings.Shaped
import Derived.Shelf.Bits.Mul64
import Derived.Test.YtidadhbaomieiaaGreatProg
import Derived.OwnWalk
import Derived.IntWalk
import Derived.Deep.Cut
import Derived.ProofKit
import Derived.OpenShut
import Derived.ShutString
import Derived.ChangeOld
import Derived.Below
import Derived.Deep.Slices
import Derived.ChangeArms
import Derived.Defers
import Derived.Laws.LoneSync
import Derived.RegionCalls
import Derived.ChangeAlike
import Derived.Lib.SlBytesConst
set_option maxRecDepth 100000
namespace Go
theorem yA {p : Prop} (h : p := by decide +kernel) : p := h
theorem yB {p : Prop} (h : p := by first | assumption | exact zeroT_len | exact macL_len _ _) : p := h
theorem yC {p : Prop} (h : p := by kernel_rfl) : p := h
theorem yD {p : Prop} (h : p := by first | (with_reducible rfl) | omega) : p := h
theorem yE {p : Prop} (h : p := by omega) : p := h
theorem yF {p : Prop} (h : p := by first | exact ev_tmp rfl | exact ev_const) : p := h
theorem yG {p : Prop} (h : p := by with_reducible first | exact Nk.out | exact Ne.out | exact Na.out | exact No.out | exact Np.out | exact Nv.out | exact Ni.out | exact Npv.out) : p := h
theorem yH {p : Prop} (h : p := by first | exact at0 | exact at1 | exact at2 | exact at3 | exact at4 | exact at5 | exact at6 | exact at7 | exact at8) : p := h
theorem yI {p : Prop} (h : p := by exact ev_tmp rfl) : p := h
theorem yJ {p : Prop} (h : p := by first | assumption | omega | (simp; omega)) : p := h
theorem yK {p : Prop} (h : p := by repeat' (first | exact kindE_fit _ _ | refine Mf.set_fit ?_ _ _ | refine Hf.set_fit ?_ (by assumption) _ | refine Ms.fit_bt ?_ _ _ rfl | refine Ms.fit_pv ?_ rfl)) : p := h
theorem yL {p : Prop} (h : p := by first | exact at0) : p := h
theorem yM {p : Prop} (h : p := by first | decide | (intro q hq; simp at hq; subst hq; rfl) | (intro q hq; simp at hq; rcases hq with rfl | rfl; rfl; rfl) | (intro q hq; simp at hq; rcases hq with rfl | rfl | rfl <;> rfl)) : p := h
theorem yN {p : Prop} (h : p := by decide) : p := h
theorem yO {p : Prop} (h : p := by first | assumption | exact lenI | exact lenS ‹_› | rfl) : p := h
theorem yP {p : Prop} (h : p := by first | exact ev_tmp rfl | rfl) : p := h
theorem yQ {p : Prop} (h : p := by first | exact at0 | exact at1 | exact at2) : p := h
theorem yR {p : Prop} (h : p := by rw [HLEN.out]; kernel_rfl) : p := h
theorem yS {p : Prop} (h : p := by with_reducible first | exact HP.out | exact HO.out) : p := h
theorem yT {p : Prop} (h : p := by first | rfl | omega) : p := h
theorem yU {p : Prop} (h : p := by first | exact at0 | exact at1) : p := h
theorem yV {p : Prop} (h : p := by with_reducible first | exact N2k.out | exact N2e.out | exact N2a.out | exact N2o.out | exact N2p.out | exact N2v.out | exact N2i.out | exact N2pv.out) : p := h
theorem yW {p : Prop} (h : p := by with_reducible first | exact N1k.out | exact N1e.out | exact N1a.out | exact N1o.out | exact N1p.out | exact N1v.out | exact N1i.out | exact N1pv.out) : p := h
theorem yX {p : Prop} (h : p := by first | exact decide_eq_decide.2 yE | (rw [decide_eq_false (show ¬ (300 : Int) < (prs.length : Int) by omega), decide_eq_false (show ¬ (300 : Int) < (ops.length : Int) by omega), Bool.false_or, Bool.false_or]; exact decide_eq_decide.2 yE)) : p := h
end Go
