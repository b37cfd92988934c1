/- Texts of this seat, put together: Ref18D, Frame, FrameW, FrameS, FrameP. Each begins with a remark that says what is proved in it, and under which conditions. -/
import Derived.Test.YtidadhbaomieiaaGreatY
import Derived.ProofKit
import Derived.OpenShut
import Derived.ShutString
import Derived.ChangeOld
import Derived.Below
import Derived.Deep.Slices
import Derived.ChangeArms
import Derived.Test.YtidadhbaomieiaaGreatZa
import Derived.Test.YtidadhbaomieiaaGreatZd
import Derived.Test.YtidadhbaomieiaaGreatZt
import Derived.Test.YtidadhbaomieiaaGreatZu
import Derived.Test.YtidadhbaomieiaaGreatZv
import Derived.Test.YtidadhbaomieiaaGreatZw
import Derived.Test.YtidadhbaomieiaaGreatZx
set_option maxRecDepth 100000
set_option maxHeartbeats 16000000
namespace Go.Proofs.YtidadhbaomieiaaGreat
open Go.RowKit Go.TL
theorem Read18_c (s : List UInt8) (w : World) (hs1 : s.length ≤ 1000000) : Calls Tryz.prog 65 #[.string (mkS s)] w (GivesM (readM s) w) := by
 by_cases hgood : (inStart s).byte.2.err = 0 ∧ isK (UInt8.ofNat (inStart s).byte.1) = true
 ·obtain ⟨hy, hk⟩ := hgood
  obtain ⟨kb, hkb⟩ := qDF (inStart s)
  rw [hkb, UInt8.ofNat_toNat] at hk
  rcases kinds hk with rfl | rfl | rfl | rfl | rfl | rfl | rfl
  ·exact Read18_k1 s w hs1 hkb hy
  ·exact Read18_k2 s w hs1 hkb hy
  ·exact Read18_k3 s w hs1 hkb hy
  ·exact Read18_k4 s w hs1 hkb hy
  ·exact Read18_k5 s w hs1 hkb hy
  ·exact Read18_k6 s w hs1 hkb hy
  ·exact Read18_k7 s w hs1 hkb hy
 have M := (Mem.start [] w).nil 2
 have hs : s.length ≤ 1000000000 := by omega
 have O : OnS s (inStart s) := OnS.start s
 obtain ⟨kb, hkb⟩ := qDF (inStart s)
 have YC := fun g w h => qBO g s (inStart s) w h O hs
 have Oy := O.byte
 obtain ⟨y, ey⟩ : ∃ y, y = (inStart s).byte.2 := ⟨_, rfl⟩
 have hb : (inStart s).byte = (kb.toNat, y) := by rw [ey, ← hkb]
 have hbad : y.err = 0 → isK kb = false := fun h => by
  cases hk : isK kb with
  | false => rfl
  | true => exact absurd ⟨by rw [← ey]; exact h, by rw [hkb, UInt8.ofNat_toNat]; exact hk⟩ hgood
 clear hgood
 rw [hkb, ← I8_eq, ← ey] at YC
 rw [← ey] at Oy
 have R1 := readM_err hb
 have R2 := qGM hb
 obtain ⟨A, eA⟩ : ∃ A, A = readM s := ⟨_, rfl⟩
 rw [← eA] at R1 R2 ⊢
 clear ey hb eA hkb O
 replace YC := Lib.hid YC
 by_cases hy : y.err = 0
 ·cases hk : isK kb with
  | false =>
   have e0 := R2 hy hk
   subst e0
   have hno : ¬ (1 ≤ kb.toNat ∧ kb.toNat ≤ 7) := fun h => by unfold isK at hk; rw [decide_eq_true h] at hk; cases hk
   have hI := I8_eq kb
   clear R1 R2 hk Oy
   obtain ⟨rest, rd, er⟩ := y
   simp only at hy
   subst hy
   by_cases h1 : I8 kb < 1
   ·clear hno hI
    go_enter Tryz.func65, Tryz.ntmps65
    go_wp2_with ((first | ((with_reducible refine tGuard ?_); first | ((with_reducible refine qAC ?_ ?_); exact dcd) | ((with_reducible refine qAH ?_ ?_); exact dcd) | ((with_reducible refine qAI ?_ ?_); exact dcd)) | ((with_reducible refine tAlloc (some 2) 67 ?_); refine wal M _ rfl rfl (msgC zeroM) yD ?_; clear M; intro gr w1 M) | ((with_reducible refine tAlloc (some 5) 67 ?_); refine wal M _ rfl rfl (msgC zeroM) yD ?_; clear M; intro gm w1 M) | ((with_reducible refine tBox (some 15) ?_); refine w_box M _ _ rfl rfl _ rfl (irB s (inStart s)) rfl ?_; clear M; intro gi w1 M) | (go_at_call 99; (refine (YC.out gi _ (M.ok 1 _ rfl)).mono ?_; rintro e w1 ⟨rfl, U⟩; replace M := M.upd 1 rfl U; clear U; simp only [setC] at M)) | ((with_reducible refine tLoad ?_); (refine w_at _ _ rfl yI ?_; intro hx; (first | refine qAM M 0 _ _ rfl rfl hx rfl yB (show (msgC _)[0]? = some (.int .u8 (I8 kb)) from rfl) ?_ | refine qAM M 1 _ _ rfl rfl hx rfl yB (show (irB s _)[2]? = some (.int .i64 _) from rfl) ?_ | refine qAM M 1 _ _ rfl rfl hx rfl yB (show (irB s _)[1]? = some (.int .i64 _) from rfl) ?_ | refine qAQ M 0 _ _ rfl rfl hx rfl yB yD yA ?_); clear hx)) | ((with_reducible refine tStore ?_); (refine w_at2 _ _ _ rfl yI yE ?_; intro hx hy; (first | refine qAh M 0 _ _ _ rfl rfl hx rfl hy yB ?_ | refine qAD (m := zeroM) M 2 _ _ _ rfl rfl hx rfl hy rfl yD qAA qAA ?_ | refine qAD M 2 _ _ _ rfl rfl hx rfl hy rfl yD yA qAA ?_); clear hx hy M; intro w1 M; (try simp only [setC] at M))) | ((with_reducible refine tM rfl ?_); refine mS ?_; try (clear M; (first | intro g w1 M | intro w1 M); try simp only [setC] at M))) <;> (try conv => arg 5; simp only [apS, setC]))
    exact bodyPost_ret (qAK rfl _ _ gr 0 (msgC zeroM) _ (.int .i64 ((10 : Nat) : Int)) rfl rfl (M.ok 2 _ rfl).2.1 Tryz.underlying67 rfl yT) rfl (GivesM.zero M)
   ·have h7 : 7 < I8 kb := by omega
    clear hno hI
    go_enter Tryz.func65, Tryz.ntmps65
    go_wp2_with ((first | ((with_reducible refine tGuard ?_); first | ((with_reducible refine qAC ?_ ?_); exact dcd) | ((with_reducible refine qAH ?_ ?_); exact dcd) | ((with_reducible refine qAI ?_ ?_); exact dcd)) | ((with_reducible refine tAlloc (some 2) 67 ?_); refine wal M _ rfl rfl (msgC zeroM) yD ?_; clear M; intro gr w1 M) | ((with_reducible refine tAlloc (some 5) 67 ?_); refine wal M _ rfl rfl (msgC zeroM) yD ?_; clear M; intro gm w1 M) | ((with_reducible refine tBox (some 15) ?_); refine w_box M _ _ rfl rfl _ rfl (irB s (inStart s)) rfl ?_; clear M; intro gi w1 M) | (go_at_call 99; (refine (YC.out gi _ (M.ok 1 _ rfl)).mono ?_; rintro e w1 ⟨rfl, U⟩; replace M := M.upd 1 rfl U; clear U; simp only [setC] at M)) | ((with_reducible refine tLoad ?_); (refine w_at _ _ rfl yI ?_; intro hx; (first | refine qAM M 0 _ _ rfl rfl hx rfl yB (show (msgC _)[0]? = some (.int .u8 (I8 kb)) from rfl) ?_ | refine qAM M 1 _ _ rfl rfl hx rfl yB (show (irB s _)[2]? = some (.int .i64 _) from rfl) ?_ | refine qAM M 1 _ _ rfl rfl hx rfl yB (show (irB s _)[1]? = some (.int .i64 _) from rfl) ?_ | refine qAQ M 0 _ _ rfl rfl hx rfl yB yD yA ?_); clear hx)) | ((with_reducible refine tStore ?_); (refine w_at2 _ _ _ rfl yI yE ?_; intro hx hy; (first | refine qAh M 0 _ _ _ rfl rfl hx rfl hy yB ?_ | refine qAD (m := zeroM) M 2 _ _ _ rfl rfl hx rfl hy rfl yD qAA qAA ?_ | refine qAD M 2 _ _ _ rfl rfl hx rfl hy rfl yD yA qAA ?_); clear hx hy M; intro w1 M; (try simp only [setC] at M))) | ((with_reducible refine tM rfl ?_); refine mS ?_; try (clear M; (first | intro g w1 M | intro w1 M); try simp only [setC] at M))) <;> (try conv => arg 5; simp only [apS, setC]))
    exact bodyPost_ret (qAK rfl _ _ gr 0 (msgC zeroM) _ (.int .i64 ((10 : Nat) : Int)) rfl rfl (M.ok 2 _ rfl).2.1 Tryz.underlying67 rfl yT) rfl (GivesM.zero M)
  | true =>
   exact absurd hk (by rw [hbad hy]; decide)
 ·have e0 := R1 hy
  subst e0
  clear R1 R2 Oy hbad
  obtain ⟨rest, rd, er⟩ := y
  simp only at hy ⊢
  have hz : ((er : Int) == 0) = false := by simp; exact hy
  have hz' : ((er : Int) != 0) = true := by simp; exact hy
  clear hy
  go_enter Tryz.func65, Tryz.ntmps65
  go_wp2_with ((first | ((with_reducible refine tGuard ?_); first | ((with_reducible refine qAC ?_ ?_); exact dcd) | ((with_reducible refine qAH ?_ ?_); exact dcd) | ((with_reducible refine qAI ?_ ?_); exact dcd)) | ((with_reducible refine tAlloc (some 2) 67 ?_); refine wal M _ rfl rfl (msgC zeroM) yD ?_; clear M; intro gr w1 M) | ((with_reducible refine tAlloc (some 5) 67 ?_); refine wal M _ rfl rfl (msgC zeroM) yD ?_; clear M; intro gm w1 M) | ((with_reducible refine tBox (some 15) ?_); refine w_box M _ _ rfl rfl _ rfl (irB s (inStart s)) rfl ?_; clear M; intro gi w1 M) | (go_at_call 99; (refine (YC.out gi _ (M.ok 1 _ rfl)).mono ?_; rintro e w1 ⟨rfl, U⟩; replace M := M.upd 1 rfl U; clear U; simp only [setC] at M)) | ((with_reducible show Code.wp _ (Code.region 5 _ _) _ _ _); (have MR := M; refine qAB [(1, false), (2, false), (3, false), (4, false), (0, true), (5, true), (6, false)] [(25, .ptr)] [(4, _)] (IxOk MR [1]) 7 yD yD rfl yD (lowA MR 1 2 qAN) (qAJ MR _) ?_; replace M := M.drew; simp only [planC, opAt, gE])) | ((with_reducible refine tLoad ?_); (refine w_at _ _ rfl yI ?_; intro hx; (first | refine qAM M 0 _ _ rfl rfl hx rfl yB (show (msgC _)[0]? = some (.int .u8 (I8 kb)) from rfl) ?_ | refine qAM M 1 _ _ rfl rfl hx rfl yB (show (irB s _)[2]? = some (.int .i64 _) from rfl) ?_ | refine qAM M 1 _ _ rfl rfl hx rfl yB (show (irB s _)[1]? = some (.int .i64 _) from rfl) ?_ | refine qAQ M 0 _ _ rfl rfl hx rfl yB yD yA ?_); clear hx)) | ((with_reducible refine tStore ?_); (refine w_at2 _ _ _ rfl yI yE ?_; intro hx hy; (first | refine qAh M 0 _ _ _ rfl rfl hx rfl hy yB ?_ | refine qAD (m := zeroM) M 2 _ _ _ rfl rfl hx rfl hy rfl yD qAA qAA ?_ | refine qAD M 2 _ _ _ rfl rfl hx rfl hy rfl yD yA qAA ?_); clear hx hy M; intro w1 M; (try simp only [setC] at M))) | ((with_reducible refine tM rfl ?_); refine mS ?_; try (clear M; (first | intro g w1 M | intro w1 M); try simp only [setC] at M)) | ((with_reducible first | show Seg _ _ _ _ | show OnlyN _ _ _ _ _); refine rA ?_)) <;> (try conv => arg 5; simp only [apS, setC]))
  exact bodyPost_ret (qAK rfl _ _ gr 0 (msgC zeroM) _ (.int .i64 (er : Int)) rfl rfl (M.ok 2 _ rfl).2.1 Tryz.underlying67 rfl yT) rfl (GivesM.zero M)
end Go.Proofs.YtidadhbaomieiaaGreat

namespace Go
namespace TL
open Go.RowKit
theorem wf_u8 {a : Int} (h : (Lit.int .u8 a).wf = true) : ∃ x : UInt8, a = I8 x := by
 have hb : IntKind.u8.min ≤ a ∧ a ≤ IntKind.u8.max := by simpa [Lit.wf] using h
 have h0 : IntKind.u8.min = 0 := by decide
 have h1 : IntKind.u8.max = 255 := by decide
 rw [h0, h1] at hb
 refine ⟨UInt8.ofNat a.toNat, ?_⟩
 rw [I8_eq, UInt8.toNat_ofNat']
 omega
end TL
end Go

namespace Go
namespace TL
open Go.RowKit
end TL
end Go

namespace Go
namespace TL
open Go.RowKit Go.ChangeShapes Go.WideShapes Go.Deep
section
variable {H : Type} {enc : TypeId × Value → H} {P : Program} {w : World} {base : Nat} {spare : Nat → Bool} {held : Bool}
end
end TL
end Go

namespace Go
namespace TL
open Go.RowKit Go.ChangeShapes Go.WideShapes
section
variable {H : Type} {enc : TypeId × Value → H} {P : Program} {w : World} {base : Nat} {spare : Nat → Bool} {held : Bool}
theorem open_pk {r : Reach} {b0 : Nat} {t : TypeId} {v : Value} {d : DataW H} {p : List MemPlace} {f0 f1 f2 : Field} (ht : P.underlying t = some (.struct #[f0, f1, f2])) (h0 : P.underlying f0.type = some (.int .i64)) (h1 : P.underlying f1.type = some (.int .i64)) (h2 : P.underlying f2.type = some .string)
  (o0 : f0.offset = 0) (o1 : f1.offset = 1) (o2 : f2.offset = 2) (c0 : P.cellsOf f0.type = 1) (c1 : P.cellsOf f1.type = 1) (c2 : P.cellsOf f2.type = 1) (hct : P.cellsOf t = 3)
  (hv : Value.okWide P w r b0 t v) (h : DataW.Trod enc P w base spare held t v d p) :
  ∃ (fr to : Int) (l : List UInt8), v = .agg #[.int .i64 fr, .int .i64 to, .string (mkS l)] := by
 simp only [Value.okWide, ht] at hv
 obtain ⟨cs, rfl, hsz, _⟩ := hv
 obtain ⟨fuel, hf⟩ := h
 obtain ⟨xs, m, _, _, _, hxl, hg⟩ := DataW.trod_struct ht hf
 rw [hct] at hsz
 obtain ⟨cl⟩ := cs
 match cl, hsz with
 | [a, b, c], _ =>
  match xs, hxl with
  | [x0, x1, x2], _ =>
   have g0 := hg 0 f0 rfl
   have g1 := hg 1 f1 rfl
   have g2 := hg 2 f2 rfl
   rw [o0, c0] at g0
   rw [o1, c1] at g1
   rw [o2, c2] at g2
   obtain ⟨i, hi, _, _⟩ := DataW.trod_int h0 g0
   obtain ⟨j, hj, _, _⟩ := DataW.trod_int h1 g1
   obtain ⟨s, hs, _, _⟩ := DataW.trod_string h2 g2
   have ha : a = .int .i64 i := by simpa [Value.cells] using hi
   have hb : b = .int .i64 j := by simpa [Value.cells] using hj
   have hc : c = .string s := by simpa [Value.cells] using hs
   subst ha; subst hb; subst hc
   obtain ⟨ls, rfl⟩ := mkS_of s
   exact ⟨i, j, ls, rfl⟩
end
end TL
end Go
