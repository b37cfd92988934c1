/- Texts of this seat, put together: Ref18De. Each begins with a remark that says what is proved in it, and under which conditions. -/
import Derived.Test.YtidadhbaomieiaaGreatY
import Derived.Test.YtidadhbaomieiaaGreatZs
set_option maxRecDepth 100000
set_option maxHeartbeats 16000000
namespace Go.Proofs.YtidadhbaomieiaaGreat
open Go.RowKit Go.TL
theorem Read18_k7 (s : List UInt8) (w : World) (hs1 : s.length ≤ 1000000) (hkb : (inStart s).byte.1 = (7 : UInt8).toNat) (hy : (inStart s).byte.2.err = 0) : Calls Tryz.prog 65 #[.string (mkS s)] w (GivesM (readM s) w) := by
 have M := (Mem.start [] w).nil 2
 have hs : s.length ≤ 1000000000 := by omega
 have O : OnS s (inStart s) := OnS.start s
 have YC := fun g w h => qBO g s (inStart s) w h O hs
 have Oy := O.byte
 obtain ⟨y, ey⟩ : ∃ y, y = (inStart s).byte.2 := ⟨_, rfl⟩
 have hb : (inStart s).byte = ((7 : UInt8).toNat, y) := by rw [ey, ← hkb]
 rw [hkb, ← I8_eq, ← ey] at YC
 rw [← ey] at Oy hy
 have R3 := fun L x => @qDg s 7 y hb hy yN L x
 obtain ⟨A, eA⟩ : ∃ A, A = readM s := ⟨_, rfl⟩
 rw [← eA] at R3 ⊢
 clear ey hb eA hkb O
 replace YC := Lib.hid YC
 obtain ⟨⟨n1, x1⟩, T1⟩ : ∃ R, R = y.most 9223372036854775807 := ⟨_, rfl⟩
 have O1 : OnS s x1 := by have := Oy.most 9223372036854775807; rw [← T1] at this; exact this
 have Q1 := fun g w h => qAf g s y w h Oy hs 9223372036854775807 9223372036854775807 rfl yF
 rw [← T1] at Q1
 simp only at Q1
 replace Q1 := Lib.hid Q1
 obtain ⟨⟨n2, x2⟩, T2⟩ : ∃ R, R = x1.most 9223372036854775807 := ⟨_, rfl⟩
 have O2 : OnS s x2 := by have := O1.most 9223372036854775807; rw [← T2] at this; exact this
 have Q2 := fun g w h => qAf g s x1 w h O1 hs 9223372036854775807 9223372036854775807 rfl yF
 rw [← T2] at Q2
 simp only at Q2
 replace Q2 := Lib.hid Q2
 obtain ⟨⟨n3, x3⟩, T3⟩ : ∃ R, R = x2.most 15 := ⟨_, rfl⟩
 have O3 : OnS s x3 := by have := O2.most 15; rw [← T3] at this; exact this
 have Q3 := fun g w h => qAf g s x2 w h O2 hs 15 15 rfl yF
 rw [← T3] at Q3
 simp only at Q3
 replace Q3 := Lib.hid Q3
 obtain ⟨⟨n4, x4⟩, T4⟩ : ∃ R, R = x3.most 48 := ⟨_, rfl⟩
 have O4 : OnS s x4 := by have := O3.most 48; rw [← T4] at this; exact this
 have Q4 := fun g w h => qAf g s x3 w h O3 hs 48 48 rfl yF
 rw [← T4] at Q4
 simp only at Q4
 replace Q4 := Lib.hid Q4
 have hn4 : n4 ≤ 48 := by have := InS.most_le x3 48; rw [← T4] at this; exact this
 obtain ⟨⟨LL, xx⟩, hRR⟩ : ∃ R, R = runR [.num .e, .num .a, .num .i, .prs] (kindL 7) y := ⟨_, rfl⟩
 have E := R3 LL xx hRR.symm (show goodR [.num .e, .num .a, .num .i, .prs] (kindL 7) y from qAk T1 (qAk T2 (qAk T3 goodR_prs)))
 rw [qAp T1, qAp T2, qAp T3, runR_prs T4, qCJ] at hRR
 injection hRR with hR1 hR2
 rw [hR1, hR2] at E
 clear hR1 hR2
 have sn := qDM x4
 have s0 := prS_zero x4
 have sl := prS_len x4
 have son : ∀ n, OnS s (prS x4 n).2 := fun n => by
  induction n with
  | zero => exact O4
  | succ n ih => rw [qDM]; exact (ih.text 33).text 32
 obtain ⟨S, eS⟩ : ∃ S, S = prS x4 := ⟨_, rfl⟩
 rw [← eS] at sn s0 sl son E
 clear eS R3 T1 T2 T3 T4 O1 O2 O3 O4 Oy
 replace sn := Lib.hid sn
 replace sl := Lib.hid sl
 replace son := Lib.hid son
 replace E := Lib.hid fun _ : Unit => E
 obtain ⟨yr, yd, ye⟩ := y
 simp only at hy
 subst hy
 go_enter Tryz.func65, Tryz.ntmps65
 go_wp2_with ((first | ((with_reducible refine tGuard ?_); first | ((with_reducible refine qAC ?_ ?_); exact dcd) | ((with_reducible refine qAH ?_ ?_); exact dcd) | ((with_reducible refine qAI ?_ ?_); exact dcd)) | ((with_reducible refine tAlloc (some 2) 67 ?_); refine wal M _ rfl rfl (msgC zeroM) yD ?_; clear M; intro gr w1 M) | ((with_reducible refine tAlloc (some 5) 67 ?_); refine wal M _ rfl rfl (msgC zeroM) yD ?_; clear M; intro gm w1 M) | ((with_reducible refine tBox (some 15) ?_); refine w_box M _ _ rfl rfl _ rfl (irB s (inStart s)) rfl ?_; clear M; intro gi w1 M) | (go_at_call 99; (refine (YC.out gi _ (M.ok 1 _ rfl)).mono ?_; rintro e w1 ⟨rfl, U⟩; replace M := M.upd 1 rfl U; clear U; simp only [setC] at M)) | (go_at_call 84; ((first | (with_reducible refine (Q1.out gi _ (M.ok 1 _ rfl)).mono ?_) | (with_reducible refine (Q2.out gi _ (M.ok 1 _ rfl)).mono ?_) | (with_reducible refine (Q3.out gi _ (M.ok 1 _ rfl)).mono ?_) | (with_reducible refine (Q4.out gi _ (M.ok 1 _ rfl)).mono ?_)); rintro e w1 ⟨rfl, U⟩; replace M := M.upd 1 rfl U; clear U; simp only [setC] at M)) | ((with_reducible show Code.wp _ (Code.region 43 _ _) _ _ _); (have MR := M; refine qAB [(1, false), (2, false), (3, false), (4, false), (0, true), (5, true), (6, false)] [(135, .ptr)] [(4, _)] (IxOk MR [1]) 7 yD yD rfl yD (lowA MR 1 2 qAN) (qAJ MR _) ?_; replace M := M.drew; simp only [planC, opAt, gE])) | ((with_reducible refine tLoad ?_); (refine w_at _ _ rfl yI ?_; intro hx; (first | refine qAM M 0 _ _ rfl rfl hx rfl yB (show (msgC _)[0]? = some (.int .u8 (I8 7)) from rfl) ?_ | refine qAM M 1 _ _ rfl rfl hx rfl yB (show (irB s _)[2]? = some (.int .i64 _) from rfl) ?_ | refine qAM M 1 _ _ rfl rfl hx rfl yB (show (irB s _)[1]? = some (.int .i64 _) from rfl) ?_ | refine qAQ M 0 _ _ rfl rfl hx rfl yB yD yA ?_); clear hx)) | ((with_reducible refine tStore ?_); (refine w_at2 _ _ _ rfl yI yE ?_; intro hx hy; (first | refine qAh M 0 _ _ _ rfl rfl hx rfl hy yB ?_ | refine qAE M 0 _ _ _ rfl rfl hx rfl hy yB yA .e rfl ?_ | refine qAE M 0 _ _ _ rfl rfl hx rfl hy yB yA .a rfl ?_ | refine qAE M 0 _ _ _ rfl rfl hx rfl hy yB yA .i rfl ?_ | refine qCN M 0 _ _ _ rfl rfl hx rfl hy rfl rfl yB yA ?_ | refine qAD (m := zeroM) M 2 _ _ _ rfl rfl hx rfl hy rfl yD qAA qAA ?_ | refine qAD M 2 _ _ _ rfl rfl hx rfl hy rfl yD yA qAA ?_); clear hx hy M; intro w1 M; (try simp only [setC] at M))) | ((with_reducible refine tM rfl ?_); refine mS ?_; try (clear M; (first | intro g w1 M | intro w1 M); try simp only [setC] at M)) | ((with_reducible first | show Seg _ _ _ _ | show OnlyN _ _ _ _ _); refine rA ?_)) <;> (try conv => arg 5; simp only [apS, setC]))
 obtain ⟨m0, em0⟩ : ∃ m, m = Mf.set (Mf.set (Mf.set (kindM 7) (n1 : Int) .e) (n2 : Int) .a) (n3 : Int) .i := ⟨_, rfl⟩
 have hm0 : m0.fit := by rw [em0]; exact Mf.set_fit (Mf.set_fit (Mf.set_fit (qFk 7) _ _) _ _) _ _
 have hM0 : m0 = { m0 with pv := .slice none 0 0 } := by rw [em0]; rfl
 rw [← em0] at M
 have EM0 := Lib.hid fun _ : Unit => em0
 clear em0
 rw [hM0] at M
 clear hM0
 have HPV : ∀ v : Value, v.oneCell' = true → (msgC { m0 with pv := v })[106]? = some v := fun v hv => qBo (Ms.fit_pv hm0 hv) .pv
 have HFT : ∀ v : Value, v.oneCell' = true → Ms.fit { m0 with pv := v } := fun v hv => Ms.fit_pv hm0 hv
 replace HPV := Lib.hid HPV
 replace HFT := Lib.hid HFT
 go_loopw [10] (fun iv wr => ∃ (j : Nat) (q : Option Addr) (c : Nat), j ≤ n4 ∧ iv = .int .i64 j ∧ Mem [] w wr [.row gm (msgC { m0 with pv := .slice q j c }), .row gi (irB s (S j).2), .row gr (msgC zeroM), .sl 2 (.slice q j c) j ((S j).1.flatMap prV)]) (fun iv _ => n4 - (intOf iv).toNat)
 case atStart => exact ⟨0, none, 0, by omega, rfl, by rw [s0]; exact M⟩
 case round =>
  clear M
  obtain ⟨j, q, c, hj, rfl, M⟩ := hrel
  by_cases hlt : j < n4
  ·have SN := sn.out j
   have SL := sl.out j
   have SO := son.out j
   have hkt2 : decide ((j : Int) < (n4 : Int)) = true := decide_eq_true yF
   obtain ⟨z, ez⟩ : ∃ z, z = (S j).2 := ⟨_, rfl⟩
   obtain ⟨d, ed⟩ : ∃ d, d = (S j).1 := ⟨_, rfl⟩
   rw [← ez] at M SN SO
   rw [← ed] at M SN SL
   have SO1 := SO.text 33
   have A1 := fun g w h => qDX g s z w h SO hs 33 33 rfl yF
   have B1 := fun g w h => qDX g s (z.text 33).2 w h SO1 hs 32 32 rfl yF
   have HQ := HPV.out (.slice q j c) rfl
   have hfit := HFT.out (.slice q j c) rfl
   replace HQ := Lib.hid HQ
   obtain ⟨⟨a, z1⟩, e1⟩ : ∃ R, R = z.text 33 := ⟨_, rfl⟩
   rw [← e1] at A1 B1 SN
   simp only at A1 B1 SN
   obtain ⟨⟨b, z2⟩, e2⟩ : ∃ R, R = z1.text 32 := ⟨_, rfl⟩
   rw [← e2] at B1 SN
   simp only at B1 SN
   replace A1 := Lib.hid A1
   replace B1 := Lib.hid B1
   replace SN := Lib.hid fun _ : Unit => SN
   clear e1 e2 ez ed SO SO1
   go_wp2_with ((first | (go_at_call 86; ((first | (with_reducible refine (A1.out gi _ (M.ok 1 _ rfl)).mono ?_) | (with_reducible refine (B1.out gi _ (M.ok 1 _ rfl)).mono ?_)); rintro e w1 ⟨rfl, U⟩; replace M := M.upd 1 rfl U; clear U; simp only [setC] at M)) | ((with_reducible refine tLoad ?_); refine w_at _ _ rfl yI ?_; intro hx; refine qAM M 0 _ _ rfl rfl hx rfl yB HQ.out ?_; clear hx) | ((with_reducible show wpList _ _ _ (Oper.mk _ (Op.buildSlice _ 1 _) _ _ _ _ :: _) _ _); (refine qAV M pairT18 yN _ rfl rfl yE _ rfl rfl ?_; clear M; intro g w1 M)) | ((with_reducible refine tApp ?_); (refine qAg M 3 pairT18 _ _ rfl rfl rfl rfl rfl rfl yJ yN yS yW ?_; clear M; intro q cap w1 M; (try simp only [setC] at M))) | ((with_reducible refine tStore ?_); refine w_at2 _ _ _ rfl yI yE ?_; intro hx hy; (refine qCN M 0 _ _ _ rfl rfl hx rfl hy rfl rfl yB hfit ?_); clear hx hy M; intro w1 M; (try simp only [setC] at M)) | ((with_reducible refine tM rfl ?_); refine mS ?_; try (clear M; (first | intro g w1 M | intro w1 M); try simp only [setC] at M))) <;> (try conv => arg 5; simp only [apS, setC]))
   go_roundw
   case rel => exact ⟨j + 1, _, _, by omega, by go_num, by
    rw [SN.out ()]
    simp only
    rw [List.flatMap_append (xs := d)]
    exact M⟩
   case measure => simp [intOf]; omega
  ·obtain rfl : j = n4 := by omega
   have E1 := E.out ()
   have hlen := (son.out j).len
   have hle := (son.out j).2
   have hsl := sl.out j
   obtain ⟨z, ez⟩ : ∃ z, z = (S j).2 := ⟨_, rfl⟩
   obtain ⟨d, ed⟩ : ∃ d, d = (S j).1 := ⟨_, rfl⟩
   rw [← ez] at M E1 hlen hle
   rw [← ed] at M E1 hsl
   clear ez ed E
   have hfit := HFT.out (.slice q j c) rfl
   obtain ⟨rest, rd, er⟩ := z
   simp only at E1 hlen hle
   replace hsl := Lib.hid hsl
   by_cases he : er = 0
   ·subst he
    by_cases hr : rest = []
    ·rw [if_pos rfl, if_pos hr] at E1
     subst E1
     have hge : ¬ (rd : Int) < (s.length : Int) := by rw [hr] at hlen; simp at hlen; omega
     clear hr hlen hle
     go_wp2_with ((first | ((with_reducible refine tGuard ?_); first | ((with_reducible refine qAC ?_ ?_); exact dcd) | ((with_reducible refine qAH ?_ ?_); exact dcd) | ((with_reducible refine qAI ?_ ?_); exact dcd)) | ((with_reducible show Code.wp _ (Code.region 43 _ _) _ _ _); (have MR := M; refine qAB [(1, false), (2, false), (3, false), (4, false), (0, true), (5, true), (6, false)] [(135, .ptr)] [(4, _)] (IxOk MR [1]) 7 yD yD rfl yD (lowA MR 1 2 qAN) (qAJ MR _) ?_; replace M := M.drew; simp only [planC, opAt, gE])) | ((with_reducible refine tLoad ?_); (refine w_at _ _ rfl yI ?_; intro hx; (first | refine qAM M 0 _ _ rfl rfl hx rfl yB (show (msgC _)[0]? = some (.int .u8 (I8 7)) from rfl) ?_ | refine qAM M 1 _ _ rfl rfl hx rfl yB (show (irB s _)[2]? = some (.int .i64 _) from rfl) ?_ | refine qAM M 1 _ _ rfl rfl hx rfl yB (show (irB s _)[1]? = some (.int .i64 _) from rfl) ?_ | refine qAQ M 0 _ _ rfl rfl hx rfl yB yD yA ?_); clear hx)) | ((with_reducible refine tStore ?_); (refine w_at2 _ _ _ rfl yI yE ?_; intro hx hy; (first | refine qAh M 0 _ _ _ rfl rfl hx rfl hy yB ?_ | refine qAE M 0 _ _ _ rfl rfl hx rfl hy yB yA .e rfl ?_ | refine qAE M 0 _ _ _ rfl rfl hx rfl hy yB yA .a rfl ?_ | refine qAE M 0 _ _ _ rfl rfl hx rfl hy yB yA .i rfl ?_ | refine qCN M 0 _ _ _ rfl rfl hx rfl hy rfl rfl yB yA ?_ | refine qAD (m := zeroM) M 2 _ _ _ rfl rfl hx rfl hy rfl yD qAA qAA ?_ | refine qAD M 2 _ _ _ rfl rfl hx rfl hy rfl yD yA qAA ?_); clear hx hy M; intro w1 M; (try simp only [setC] at M))) | ((with_reducible refine tM rfl ?_); refine mS ?_; try (clear M; (first | intro g w1 M | intro w1 M); try simp only [setC] at M)) | ((with_reducible first | show Seg _ _ _ _ | show OnlyN _ _ _ _ _); refine rA ?_)) <;> (try conv => arg 5; simp only [apS, setC]))
     have em0 := EM0.out ()
     subst em0
     exact bodyPost_ret (qAK rfl _ _ gr 0 (msgC _) _ (.int .i64 ((0 : Nat) : Int)) rfl rfl (M.ok 2 _ rfl).2.1 Tryz.underlying67 rfl (by rw [qAs hfit]; kernel_rfl)) rfl ⟨.slice none 0 0, .slice q j c, rfl, by
      show Mem [] w _ [.sl 3 (.slice none 0 0) 0 [], .sl 2 (.slice q j c) d.length (d.flatMap prV)]
      rw [hsl.out]
      exact (M.nil 3).sel [0, 4] _ yN rfl⟩
    ·rw [if_pos rfl, if_neg hr] at E1
     subst E1
     have hge : (rd : Int) < (s.length : Int) := by have := List.length_pos_iff.2 hr; omega
     clear hr hlen hle
     go_wp2_with ((first | ((with_reducible refine tGuard ?_); first | ((with_reducible refine qAC ?_ ?_); exact dcd) | ((with_reducible refine qAH ?_ ?_); exact dcd) | ((with_reducible refine qAI ?_ ?_); exact dcd)) | ((with_reducible show Code.wp _ (Code.region 43 _ _) _ _ _); (have MR := M; refine qAB [(1, false), (2, false), (3, false), (4, false), (0, true), (5, true), (6, false)] [(135, .ptr)] [(4, _)] (IxOk MR [1]) 7 yD yD rfl yD (lowA MR 1 2 qAN) (qAJ MR _) ?_; replace M := M.drew; simp only [planC, opAt, gE])) | ((with_reducible refine tLoad ?_); (refine w_at _ _ rfl yI ?_; intro hx; (first | refine qAM M 0 _ _ rfl rfl hx rfl yB (show (msgC _)[0]? = some (.int .u8 (I8 7)) from rfl) ?_ | refine qAM M 1 _ _ rfl rfl hx rfl yB (show (irB s _)[2]? = some (.int .i64 _) from rfl) ?_ | refine qAM M 1 _ _ rfl rfl hx rfl yB (show (irB s _)[1]? = some (.int .i64 _) from rfl) ?_ | refine qAQ M 0 _ _ rfl rfl hx rfl yB yD yA ?_); clear hx)) | ((with_reducible refine tStore ?_); (refine w_at2 _ _ _ rfl yI yE ?_; intro hx hy; (first | refine qAh M 0 _ _ _ rfl rfl hx rfl hy yB ?_ | refine qAE M 0 _ _ _ rfl rfl hx rfl hy yB yA .e rfl ?_ | refine qAE M 0 _ _ _ rfl rfl hx rfl hy yB yA .a rfl ?_ | refine qAE M 0 _ _ _ rfl rfl hx rfl hy yB yA .i rfl ?_ | refine qCN M 0 _ _ _ rfl rfl hx rfl hy rfl rfl yB yA ?_ | refine qAD (m := zeroM) M 2 _ _ _ rfl rfl hx rfl hy rfl yD qAA qAA ?_ | refine qAD M 2 _ _ _ rfl rfl hx rfl hy rfl yD yA qAA ?_); clear hx hy M; intro w1 M; (try simp only [setC] at M))) | ((with_reducible refine tM rfl ?_); refine mS ?_; try (clear M; (first | intro g w1 M | intro w1 M); try simp only [setC] at M)) | ((with_reducible first | show Seg _ _ _ _ | show OnlyN _ _ _ _ _); refine rA ?_)) <;> (try conv => arg 5; simp only [apS, setC]))
     exact bodyPost_ret (qAK rfl _ _ gr 0 (msgC zeroM) _ (.int .i64 ((8 : Nat) : Int)) rfl rfl (M.ok 2 _ rfl).2.1 Tryz.underlying67 rfl yT) rfl (GivesM.zero M)
   ·rw [if_neg he] at E1
    subst E1
    have hz : ((er : Int) == 0) = false := by simp; exact he
    have hz' : ((er : Int) != 0) = true := by simp; exact he
    clear he hlen hle
    go_wp2_with ((first | ((with_reducible refine tGuard ?_); first | ((with_reducible refine qAC ?_ ?_); exact dcd) | ((with_reducible refine qAH ?_ ?_); exact dcd) | ((with_reducible refine qAI ?_ ?_); exact dcd)) | ((with_reducible show Code.wp _ (Code.region 43 _ _) _ _ _); (have MR := M; refine qAB [(1, false), (2, false), (3, false), (4, false), (0, true), (5, true), (6, false)] [(135, .ptr)] [(4, _)] (IxOk MR [1]) 7 yD yD rfl yD (lowA MR 1 2 qAN) (qAJ MR _) ?_; replace M := M.drew; simp only [planC, opAt, gE])) | ((with_reducible refine tLoad ?_); (refine w_at _ _ rfl yI ?_; intro hx; (first | refine qAM M 0 _ _ rfl rfl hx rfl yB (show (msgC _)[0]? = some (.int .u8 (I8 7)) from rfl) ?_ | refine qAM M 1 _ _ rfl rfl hx rfl yB (show (irB s _)[2]? = some (.int .i64 _) from rfl) ?_ | refine qAM M 1 _ _ rfl rfl hx rfl yB (show (irB s _)[1]? = some (.int .i64 _) from rfl) ?_ | refine qAQ M 0 _ _ rfl rfl hx rfl yB yD yA ?_); clear hx)) | ((with_reducible refine tStore ?_); (refine w_at2 _ _ _ rfl yI yE ?_; intro hx hy; (first | refine qAh M 0 _ _ _ rfl rfl hx rfl hy yB ?_ | refine qAE M 0 _ _ _ rfl rfl hx rfl hy yB yA .e rfl ?_ | refine qAE M 0 _ _ _ rfl rfl hx rfl hy yB yA .a rfl ?_ | refine qAE M 0 _ _ _ rfl rfl hx rfl hy yB yA .i rfl ?_ | refine qCN M 0 _ _ _ rfl rfl hx rfl hy rfl rfl yB yA ?_ | refine qAD (m := zeroM) M 2 _ _ _ rfl rfl hx rfl hy rfl yD qAA qAA ?_ | refine qAD M 2 _ _ _ rfl rfl hx rfl hy rfl yD yA qAA ?_); clear hx hy M; intro w1 M; (try simp only [setC] at M))) | ((with_reducible refine tM rfl ?_); refine mS ?_; try (clear M; (first | intro g w1 M | intro w1 M); try simp only [setC] at M)) | ((with_reducible first | show Seg _ _ _ _ | show OnlyN _ _ _ _ _); refine rA ?_)) <;> (try conv => arg 5; simp only [apS, setC]))
    exact bodyPost_ret (qAK rfl _ _ gr 0 (msgC zeroM) _ (.int .i64 (er : Int)) rfl rfl (M.ok 2 _ rfl).2.1 Tryz.underlying67 rfl yT) rfl (GivesM.zero M)
end Go.Proofs.YtidadhbaomieiaaGreat
