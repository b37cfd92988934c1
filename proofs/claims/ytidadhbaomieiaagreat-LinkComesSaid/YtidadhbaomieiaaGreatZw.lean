/- Texts of this seat, put together: Ref18Dd. Each begins with a remark that says what is proved in it, and under which conditions. -/
import Derived.Test.YtidadhbaomieiaaGreatY
import Derived.Test.YtidadhbaomieiaaGreatZs
set_option maxRecDepth 100000
set_option maxHeartbeats 16000000
namespace Go.Proofs.YtidadhbaomieiaaGreat
open Go.RowKit Go.TL
theorem Read18_k2 (s : List UInt8) (w : World) (hs1 : s.length ≤ 1000000) (hkb : (inStart s).byte.1 = (2 : UInt8).toNat) (hy : (inStart s).byte.2.err = 0) : Calls Tryz.prog 65 #[.string (mkS s)] w (GivesM (readM s) w) := by
 have M := (Mem.start [] w).nil 2
 have hs : s.length ≤ 1000000000 := by omega
 have O : OnS s (inStart s) := OnS.start s
 have YC := fun g w h => qBO g s (inStart s) w h O hs
 have Oy := O.byte
 obtain ⟨y, ey⟩ : ∃ y, y = (inStart s).byte.2 := ⟨_, rfl⟩
 have hb : (inStart s).byte = ((2 : UInt8).toNat, y) := by rw [ey, ← hkb]
 rw [hkb, ← I8_eq, ← ey] at YC
 rw [← ey] at Oy hy
 have R3 := fun L x => @qDg s 2 y hb hy yN L x
 have RB := fun {n1 n2 x1 x2 x3 t} => @readM_bat s y hb hy n1 n2 x1 x2 x3 t
 obtain ⟨A, eA⟩ : ∃ A, A = readM s := ⟨_, rfl⟩
 rw [← eA] at R3 RB ⊢
 clear ey hb eA hkb O
 replace YC := Lib.hid YC
 obtain ⟨⟨n1, x1⟩, T1⟩ : ∃ R, R = y.most 9223372036854775807 := ⟨_, rfl⟩
 have O1 : OnS s x1 := by have := Oy.most 9223372036854775807; rw [← T1] at this; exact this
 have Q1 := fun g w h => qAf g s y w h Oy hs 9223372036854775807 9223372036854775807 rfl yF
 rw [← T1] at Q1
 simp only at Q1
 replace Q1 := Lib.hid Q1
 obtain ⟨⟨n2, x2⟩, T2⟩ : ∃ R, R = x1.most 9223372036854775807 := ⟨_, rfl⟩
 have O2 : OnS s x2 := by have := O1.most 9223372036854775807; rw [← T2] at this; exact this
 have Q2 := fun g w h => qAf g s x1 w h O1 hs 9223372036854775807 9223372036854775807 rfl yF
 rw [← T2] at Q2
 simp only at Q2
 replace Q2 := Lib.hid Q2
 obtain ⟨⟨t, x3⟩, T3⟩ : ∃ R, R = x2.text 512 := ⟨_, rfl⟩
 have O3 : OnS s x3 := by have := O2.text 512; rw [← T3] at this; exact this
 have tl : t.length ≤ 512 := by have := InS.text_len x2 512; rw [← T3] at this; exact this
 have Q3 := fun g w h => qDX g s x2 w h O2 hs 512 512 rfl yF
 rw [← T3] at Q3
 simp only at Q3
 replace Q3 := Lib.hid Q3
 have RC := fun w => rRead_c t w yF
 unfold Gives at RC
 have hlen := O3.len
 have hle := O3.2
 by_cases h3 : x3.err = 0
 ·obtain ⟨⟨⟨bi, be, d⟩, r⟩, er0⟩ : ∃ R, R = readB t := ⟨_, rfl⟩
  rw [← er0] at RC
  simp only at RC
  replace RC := Lib.hid RC
  by_cases hr0 : r = 0
  ·subst hr0
   obtain ⟨⟨LL, xx⟩, hRR⟩ : ∃ R, R = runR [.num .e, .num .p, .bat] (kindL 2) y := ⟨_, rfl⟩
   have E := R3 LL xx hRR.symm (show goodR [.num .e, .num .p, .bat] (kindL 2) y from qAk T1 (qAk T2 (goodR_bat T3 (fun _ => by rw [← er0]))))
   rw [qAp T1, qAp T2, runR_bat T3 h3, qCJ] at hRR
   injection hRR with hR1 hR2
   rw [hR1, hR2] at E
   clear hR1 hR2
   rw [← er0, if_pos h3] at E
   simp only at E
   clear er0
   clear R3 RB T1 T2 T3 O1 O2 O3 Oy
   obtain ⟨yr, yd, ye⟩ := y
   simp only at hy
   subst hy
   obtain ⟨rest, rd, er⟩ := x3
   simp only at hlen hle
   simp only at h3 E
   subst h3
   by_cases hr : rest = []
   ·rw [if_pos hr] at E
    subst E
    have hge : ¬ (rd : Int) < (s.length : Int) := by rw [hr] at hlen; simp at hlen; omega
    clear hr hlen hle
    go_enter Tryz.func65, Tryz.ntmps65
    go_wp2_with ((first | ((with_reducible refine tGuard ?_); first | ((with_reducible refine qAC ?_ ?_); exact dcd) | ((with_reducible refine qAH ?_ ?_); exact dcd) | ((with_reducible refine qAI ?_ ?_); exact dcd)) | ((with_reducible refine tAlloc (some 2) 67 ?_); refine wal M _ rfl rfl (msgC zeroM) yD ?_; clear M; intro gr w1 M) | ((with_reducible refine tAlloc (some 5) 67 ?_); refine wal M _ rfl rfl (msgC zeroM) yD ?_; clear M; intro gm w1 M) | ((with_reducible refine tBox (some 15) ?_); refine w_box M _ _ rfl rfl _ rfl (irB s (inStart s)) rfl ?_; clear M; intro gi w1 M) | (go_at_call 99; (refine (YC.out gi _ (M.ok 1 _ rfl)).mono ?_; rintro e w1 ⟨rfl, U⟩; replace M := M.upd 1 rfl U; clear U; simp only [setC] at M)) | (go_at_call 84; ((first | (with_reducible refine (Q1.out gi _ (M.ok 1 _ rfl)).mono ?_) | (with_reducible refine (Q2.out gi _ (M.ok 1 _ rfl)).mono ?_)); rintro e w1 ⟨rfl, U⟩; replace M := M.upd 1 rfl U; clear U; simp only [setC] at M)) | (go_at_call 86; ((first | (with_reducible refine (Q3.out gi _ (M.ok 1 _ rfl)).mono ?_)); rintro e w1 ⟨rfl, U⟩; replace M := M.upd 1 rfl U; clear U; simp only [setC] at M)) | (go_at_call 100; (refine (RC.out _).mono ?_; rintro e w7 ⟨q, c, rfl, N⟩; simp only [batR]; replace M := M.join N; clear N; simp only [List.cons_append, List.nil_append] at M)) | ((with_reducible refine tAlloc (some 7) 63 ?_); refine wal M _ rfl rfl ([.int .i64 0, .int .i64 0, .slice none 0 0]) yD ?_; clear M; intro gb w1 M) | ((with_reducible show Code.wp _ (Code.region 43 _ _) _ _ _); (have MR := M; refine qAB [(1, false), (2, false), (3, false), (4, false), (0, true), (5, true), (6, false)] [(135, .ptr)] [(4, _)] (IxOk MR [1]) 7 yD yD rfl yD (lowA MR 1 2 qAN) (qAJ MR _) ?_; replace M := M.drew; simp only [planC, opAt, gE])) | ((with_reducible refine tLoad ?_); (refine w_at _ _ rfl yI ?_; intro hx; (first | refine qAM M 0 _ _ rfl rfl hx rfl yB (show (msgC _)[0]? = some (.int .u8 (I8 2)) from rfl) ?_ | refine qAM M 2 _ _ rfl rfl hx rfl yB (show (msgC _)[0]? = some (.int .u8 (I8 2)) from rfl) ?_ | refine qAM M 1 _ _ rfl rfl hx rfl yB (show (irB s _)[2]? = some (.int .i64 _) from rfl) ?_ | refine qAM M 1 _ _ rfl rfl hx rfl yB (show (irB s _)[1]? = some (.int .i64 _) from rfl) ?_ | refine qAM M 3 _ _ rfl rfl hx rfl yB (show (irB s _)[2]? = some (.int .i64 _) from rfl) ?_ | refine qAM M 3 _ _ rfl rfl hx rfl yB (show (irB s _)[1]? = some (.int .i64 _) from rfl) ?_ | refine qAQ M 0 _ _ rfl rfl hx rfl yB yD yA ?_ | refine qAQ M 2 _ _ rfl rfl hx rfl yB yD yA ?_ | refine qAm M 0 _ _ rfl rfl hx rfl yB yD ?_); clear hx)) | ((with_reducible refine tStore ?_); (refine w_at2 _ _ _ rfl yI yE ?_; intro hx hy; (first | refine qBK M 0 _ _ _ rfl rfl hx rfl _ hy rfl yD yD1 rfl ?_ | refine qAh M 0 _ _ _ rfl rfl hx rfl hy yB ?_ | refine qAE M 0 _ _ _ rfl rfl hx rfl hy yB yA .e rfl ?_ | refine qAE M 0 _ _ _ rfl rfl hx rfl hy yB yA .p rfl ?_ | refine qBW M 0 _ _ _ rfl rfl hx rfl hy yD rfl ?_ | refine qAE M 2 _ _ _ rfl rfl hx rfl hy yB yA .e rfl ?_ | refine qAE M 2 _ _ _ rfl rfl hx rfl hy yB yA .p rfl ?_ | refine qBW M 2 _ _ _ rfl rfl hx rfl hy yD rfl ?_ | refine qAD (m := zeroM) M 2 _ _ _ rfl rfl hx rfl hy rfl yD qAA qAA ?_ | refine qAD M 2 _ _ _ rfl rfl hx rfl hy rfl yD yA qAA ?_ | refine qAD (m := zeroM) M 4 _ _ _ rfl rfl hx rfl hy rfl yD qAA qAA ?_ | refine qAD M 4 _ _ _ rfl rfl hx rfl hy rfl yD yA qAA ?_); clear hx hy M; intro w1 M; (try simp only [setC] at M))) | ((with_reducible refine tM rfl ?_); refine mS ?_; try (clear M; (first | intro g w1 M | intro w1 M); try simp only [setC] at M)) | ((with_reducible first | show Seg _ _ _ _ | show OnlyN _ _ _ _ _); refine rA ?_)) <;> (try conv => arg 5; simp only [apS, setC]))
    exact bodyPost_ret (qAK rfl _ _ gr 0 (msgC _) _ (.int .i64 ((0 : Nat) : Int)) rfl rfl (M.ok 4 _ rfl).2.1 Tryz.underlying67 rfl (by rw [qAs yA]; kernel_rfl)) rfl (⟨.slice q d.length c, .slice none 0 0, rfl, M.sel [1, 5] _ yN rfl⟩)
   ·rw [if_neg hr] at E
    subst E
    have hge : (rd : Int) < (s.length : Int) := by have := List.length_pos_iff.2 hr; omega
    clear hr hlen hle
    go_enter Tryz.func65, Tryz.ntmps65
    go_wp2_with ((first | ((with_reducible refine tGuard ?_); first | ((with_reducible refine qAC ?_ ?_); exact dcd) | ((with_reducible refine qAH ?_ ?_); exact dcd) | ((with_reducible refine qAI ?_ ?_); exact dcd)) | ((with_reducible refine tAlloc (some 2) 67 ?_); refine wal M _ rfl rfl (msgC zeroM) yD ?_; clear M; intro gr w1 M) | ((with_reducible refine tAlloc (some 5) 67 ?_); refine wal M _ rfl rfl (msgC zeroM) yD ?_; clear M; intro gm w1 M) | ((with_reducible refine tBox (some 15) ?_); refine w_box M _ _ rfl rfl _ rfl (irB s (inStart s)) rfl ?_; clear M; intro gi w1 M) | (go_at_call 99; (refine (YC.out gi _ (M.ok 1 _ rfl)).mono ?_; rintro e w1 ⟨rfl, U⟩; replace M := M.upd 1 rfl U; clear U; simp only [setC] at M)) | (go_at_call 84; ((first | (with_reducible refine (Q1.out gi _ (M.ok 1 _ rfl)).mono ?_) | (with_reducible refine (Q2.out gi _ (M.ok 1 _ rfl)).mono ?_)); rintro e w1 ⟨rfl, U⟩; replace M := M.upd 1 rfl U; clear U; simp only [setC] at M)) | (go_at_call 86; ((first | (with_reducible refine (Q3.out gi _ (M.ok 1 _ rfl)).mono ?_)); rintro e w1 ⟨rfl, U⟩; replace M := M.upd 1 rfl U; clear U; simp only [setC] at M)) | (go_at_call 100; (refine (RC.out _).mono ?_; rintro e w7 ⟨q, c, rfl, N⟩; simp only [batR]; replace M := M.join N; clear N; simp only [List.cons_append, List.nil_append] at M)) | ((with_reducible refine tAlloc (some 7) 63 ?_); refine wal M _ rfl rfl ([.int .i64 0, .int .i64 0, .slice none 0 0]) yD ?_; clear M; intro gb w1 M) | ((with_reducible show Code.wp _ (Code.region 43 _ _) _ _ _); (have MR := M; refine qAB [(1, false), (2, false), (3, false), (4, false), (0, true), (5, true), (6, false)] [(135, .ptr)] [(4, _)] (IxOk MR [1]) 7 yD yD rfl yD (lowA MR 1 2 qAN) (qAJ MR _) ?_; replace M := M.drew; simp only [planC, opAt, gE])) | ((with_reducible refine tLoad ?_); (refine w_at _ _ rfl yI ?_; intro hx; (first | refine qAM M 0 _ _ rfl rfl hx rfl yB (show (msgC _)[0]? = some (.int .u8 (I8 2)) from rfl) ?_ | refine qAM M 2 _ _ rfl rfl hx rfl yB (show (msgC _)[0]? = some (.int .u8 (I8 2)) from rfl) ?_ | refine qAM M 1 _ _ rfl rfl hx rfl yB (show (irB s _)[2]? = some (.int .i64 _) from rfl) ?_ | refine qAM M 1 _ _ rfl rfl hx rfl yB (show (irB s _)[1]? = some (.int .i64 _) from rfl) ?_ | refine qAM M 3 _ _ rfl rfl hx rfl yB (show (irB s _)[2]? = some (.int .i64 _) from rfl) ?_ | refine qAM M 3 _ _ rfl rfl hx rfl yB (show (irB s _)[1]? = some (.int .i64 _) from rfl) ?_ | refine qAQ M 0 _ _ rfl rfl hx rfl yB yD yA ?_ | refine qAQ M 2 _ _ rfl rfl hx rfl yB yD yA ?_ | refine qAm M 0 _ _ rfl rfl hx rfl yB yD ?_); clear hx)) | ((with_reducible refine tStore ?_); (refine w_at2 _ _ _ rfl yI yE ?_; intro hx hy; (first | refine qBK M 0 _ _ _ rfl rfl hx rfl _ hy rfl yD yD1 rfl ?_ | refine qAh M 0 _ _ _ rfl rfl hx rfl hy yB ?_ | refine qAE M 0 _ _ _ rfl rfl hx rfl hy yB yA .e rfl ?_ | refine qAE M 0 _ _ _ rfl rfl hx rfl hy yB yA .p rfl ?_ | refine qBW M 0 _ _ _ rfl rfl hx rfl hy yD rfl ?_ | refine qAE M 2 _ _ _ rfl rfl hx rfl hy yB yA .e rfl ?_ | refine qAE M 2 _ _ _ rfl rfl hx rfl hy yB yA .p rfl ?_ | refine qBW M 2 _ _ _ rfl rfl hx rfl hy yD rfl ?_ | refine qAD (m := zeroM) M 2 _ _ _ rfl rfl hx rfl hy rfl yD qAA qAA ?_ | refine qAD M 2 _ _ _ rfl rfl hx rfl hy rfl yD yA qAA ?_ | refine qAD (m := zeroM) M 4 _ _ _ rfl rfl hx rfl hy rfl yD qAA qAA ?_ | refine qAD M 4 _ _ _ rfl rfl hx rfl hy rfl yD yA qAA ?_); clear hx hy M; intro w1 M; (try simp only [setC] at M))) | ((with_reducible refine tM rfl ?_); refine mS ?_; try (clear M; (first | intro g w1 M | intro w1 M); try simp only [setC] at M)) | ((with_reducible first | show Seg _ _ _ _ | show OnlyN _ _ _ _ _); refine rA ?_)) <;> (try conv => arg 5; simp only [apS, setC]))
    exact bodyPost_ret (qAK rfl _ _ gr 0 (msgC zeroM) _ (.int .i64 ((8 : Nat) : Int)) rfl rfl (M.ok 4 _ rfl).2.1 Tryz.underlying67 rfl yT) rfl (GivesM.zero M)
  ·have E := RB T1 T2 T3 h3 (r := r) (by rw [← er0]) hr0
   clear er0
   clear R3 RB T1 T2 T3 O1 O2 O3 Oy
   obtain ⟨yr, yd, ye⟩ := y
   simp only at hy
   subst hy
   obtain ⟨rest, rd, er⟩ := x3
   simp only at hlen hle
   simp only at h3
   subst h3
   subst E
   have hz : ((r : Int) == 0) = false := by simp; exact hr0
   have hz' : ((r : Int) != 0) = true := by simp; exact hr0
   clear hr0 hlen hle
   go_enter Tryz.func65, Tryz.ntmps65
   go_wp2_with ((first | ((with_reducible refine tGuard ?_); first | ((with_reducible refine qAC ?_ ?_); exact dcd) | ((with_reducible refine qAH ?_ ?_); exact dcd) | ((with_reducible refine qAI ?_ ?_); exact dcd)) | ((with_reducible refine tAlloc (some 2) 67 ?_); refine wal M _ rfl rfl (msgC zeroM) yD ?_; clear M; intro gr w1 M) | ((with_reducible refine tAlloc (some 5) 67 ?_); refine wal M _ rfl rfl (msgC zeroM) yD ?_; clear M; intro gm w1 M) | ((with_reducible refine tBox (some 15) ?_); refine w_box M _ _ rfl rfl _ rfl (irB s (inStart s)) rfl ?_; clear M; intro gi w1 M) | (go_at_call 99; (refine (YC.out gi _ (M.ok 1 _ rfl)).mono ?_; rintro e w1 ⟨rfl, U⟩; replace M := M.upd 1 rfl U; clear U; simp only [setC] at M)) | (go_at_call 84; ((first | (with_reducible refine (Q1.out gi _ (M.ok 1 _ rfl)).mono ?_) | (with_reducible refine (Q2.out gi _ (M.ok 1 _ rfl)).mono ?_)); rintro e w1 ⟨rfl, U⟩; replace M := M.upd 1 rfl U; clear U; simp only [setC] at M)) | (go_at_call 86; ((first | (with_reducible refine (Q3.out gi _ (M.ok 1 _ rfl)).mono ?_)); rintro e w1 ⟨rfl, U⟩; replace M := M.upd 1 rfl U; clear U; simp only [setC] at M)) | (go_at_call 100; (refine (RC.out _).mono ?_; rintro e w7 ⟨q, c, rfl, N⟩; simp only [batR]; replace M := M.join N; clear N; simp only [List.cons_append, List.nil_append] at M)) | ((with_reducible refine tAlloc (some 7) 63 ?_); refine wal M _ rfl rfl ([.int .i64 0, .int .i64 0, .slice none 0 0]) yD ?_; clear M; intro gb w1 M) | ((with_reducible show Code.wp _ (Code.region 43 _ _) _ _ _); (have MR := M; refine qAB [(1, false), (2, false), (3, false), (4, false), (0, true), (5, true), (6, false)] [(135, .ptr)] [(4, _)] (IxOk MR [1]) 7 yD yD rfl yD (lowA MR 1 2 qAN) (qAJ MR _) ?_; replace M := M.drew; simp only [planC, opAt, gE])) | ((with_reducible refine tLoad ?_); (refine w_at _ _ rfl yI ?_; intro hx; (first | refine qAM M 0 _ _ rfl rfl hx rfl yB (show (msgC _)[0]? = some (.int .u8 (I8 2)) from rfl) ?_ | refine qAM M 2 _ _ rfl rfl hx rfl yB (show (msgC _)[0]? = some (.int .u8 (I8 2)) from rfl) ?_ | refine qAM M 1 _ _ rfl rfl hx rfl yB (show (irB s _)[2]? = some (.int .i64 _) from rfl) ?_ | refine qAM M 1 _ _ rfl rfl hx rfl yB (show (irB s _)[1]? = some (.int .i64 _) from rfl) ?_ | refine qAM M 3 _ _ rfl rfl hx rfl yB (show (irB s _)[2]? = some (.int .i64 _) from rfl) ?_ | refine qAM M 3 _ _ rfl rfl hx rfl yB (show (irB s _)[1]? = some (.int .i64 _) from rfl) ?_ | refine qAQ M 0 _ _ rfl rfl hx rfl yB yD yA ?_ | refine qAQ M 2 _ _ rfl rfl hx rfl yB yD yA ?_ | refine qAm M 0 _ _ rfl rfl hx rfl yB yD ?_); clear hx)) | ((with_reducible refine tStore ?_); (refine w_at2 _ _ _ rfl yI yE ?_; intro hx hy; (first | refine qBK M 0 _ _ _ rfl rfl hx rfl _ hy rfl yD yD1 rfl ?_ | refine qAh M 0 _ _ _ rfl rfl hx rfl hy yB ?_ | refine qAE M 0 _ _ _ rfl rfl hx rfl hy yB yA .e rfl ?_ | refine qAE M 0 _ _ _ rfl rfl hx rfl hy yB yA .p rfl ?_ | refine qBW M 0 _ _ _ rfl rfl hx rfl hy yD rfl ?_ | refine qAE M 2 _ _ _ rfl rfl hx rfl hy yB yA .e rfl ?_ | refine qAE M 2 _ _ _ rfl rfl hx rfl hy yB yA .p rfl ?_ | refine qBW M 2 _ _ _ rfl rfl hx rfl hy yD rfl ?_ | refine qAD (m := zeroM) M 2 _ _ _ rfl rfl hx rfl hy rfl yD qAA qAA ?_ | refine qAD M 2 _ _ _ rfl rfl hx rfl hy rfl yD yA qAA ?_ | refine qAD (m := zeroM) M 4 _ _ _ rfl rfl hx rfl hy rfl yD qAA qAA ?_ | refine qAD M 4 _ _ _ rfl rfl hx rfl hy rfl yD yA qAA ?_); clear hx hy M; intro w1 M; (try simp only [setC] at M))) | ((with_reducible refine tM rfl ?_); refine mS ?_; try (clear M; (first | intro g w1 M | intro w1 M); try simp only [setC] at M)) | ((with_reducible first | show Seg _ _ _ _ | show OnlyN _ _ _ _ _); refine rA ?_)) <;> (try conv => arg 5; simp only [apS, setC]))
   exact bodyPost_ret (qAK rfl _ _ gr 0 (msgC zeroM) _ (.int .i64 (r : Int)) rfl rfl (M.ok 4 _ rfl).2.1 Tryz.underlying67 rfl yT) rfl (GivesM.zero M)
 ·obtain ⟨⟨LL, xx⟩, hRR⟩ : ∃ R, R = runR [.num .e, .num .p, .bat] (kindL 2) y := ⟨_, rfl⟩
  have E := R3 LL xx hRR.symm (show goodR [.num .e, .num .p, .bat] (kindL 2) y from qAk T1 (qAk T2 (goodR_bat T3 (fun h => absurd h h3))))
  rw [qAp T1, qAp T2, runR_bate T3 h3, qCJ] at hRR
  injection hRR with hR1 hR2
  rw [hR1, hR2] at E
  clear hR1 hR2
  rw [if_neg h3] at E
  replace RC := Lib.hid RC
  clear R3 RB T1 T2 T3 O1 O2 O3 Oy
  obtain ⟨yr, yd, ye⟩ := y
  simp only at hy
  subst hy
  obtain ⟨rest, rd, er⟩ := x3
  simp only at hlen hle
  simp only at h3 E
  subst E
  have hz : ((er : Int) == 0) = false := by simp; exact h3
  have hz' : ((er : Int) != 0) = true := by simp; exact h3
  clear h3 hlen hle
  go_enter Tryz.func65, Tryz.ntmps65
  go_wp2_with ((first | ((with_reducible refine tGuard ?_); first | ((with_reducible refine qAC ?_ ?_); exact dcd) | ((with_reducible refine qAH ?_ ?_); exact dcd) | ((with_reducible refine qAI ?_ ?_); exact dcd)) | ((with_reducible refine tAlloc (some 2) 67 ?_); refine wal M _ rfl rfl (msgC zeroM) yD ?_; clear M; intro gr w1 M) | ((with_reducible refine tAlloc (some 5) 67 ?_); refine wal M _ rfl rfl (msgC zeroM) yD ?_; clear M; intro gm w1 M) | ((with_reducible refine tBox (some 15) ?_); refine w_box M _ _ rfl rfl _ rfl (irB s (inStart s)) rfl ?_; clear M; intro gi w1 M) | (go_at_call 99; (refine (YC.out gi _ (M.ok 1 _ rfl)).mono ?_; rintro e w1 ⟨rfl, U⟩; replace M := M.upd 1 rfl U; clear U; simp only [setC] at M)) | (go_at_call 84; ((first | (with_reducible refine (Q1.out gi _ (M.ok 1 _ rfl)).mono ?_) | (with_reducible refine (Q2.out gi _ (M.ok 1 _ rfl)).mono ?_)); rintro e w1 ⟨rfl, U⟩; replace M := M.upd 1 rfl U; clear U; simp only [setC] at M)) | (go_at_call 86; ((first | (with_reducible refine (Q3.out gi _ (M.ok 1 _ rfl)).mono ?_)); rintro e w1 ⟨rfl, U⟩; replace M := M.upd 1 rfl U; clear U; simp only [setC] at M)) | (go_at_call 100; (refine (RC.out _).mono ?_; rintro e w7 ⟨q, c, rfl, N⟩; simp only [batR]; replace M := M.join N; clear N; simp only [List.cons_append, List.nil_append] at M)) | ((with_reducible refine tAlloc (some 7) 63 ?_); refine wal M _ rfl rfl ([.int .i64 0, .int .i64 0, .slice none 0 0]) yD ?_; clear M; intro gb w1 M) | ((with_reducible show Code.wp _ (Code.region 43 _ _) _ _ _); (have MR := M; refine qAB [(1, false), (2, false), (3, false), (4, false), (0, true), (5, true), (6, false)] [(135, .ptr)] [(4, _)] (IxOk MR [1]) 7 yD yD rfl yD (lowA MR 1 2 qAN) (qAJ MR _) ?_; replace M := M.drew; simp only [planC, opAt, gE])) | ((with_reducible refine tLoad ?_); (refine w_at _ _ rfl yI ?_; intro hx; (first | refine qAM M 0 _ _ rfl rfl hx rfl yB (show (msgC _)[0]? = some (.int .u8 (I8 2)) from rfl) ?_ | refine qAM M 2 _ _ rfl rfl hx rfl yB (show (msgC _)[0]? = some (.int .u8 (I8 2)) from rfl) ?_ | refine qAM M 1 _ _ rfl rfl hx rfl yB (show (irB s _)[2]? = some (.int .i64 _) from rfl) ?_ | refine qAM M 1 _ _ rfl rfl hx rfl yB (show (irB s _)[1]? = some (.int .i64 _) from rfl) ?_ | refine qAM M 3 _ _ rfl rfl hx rfl yB (show (irB s _)[2]? = some (.int .i64 _) from rfl) ?_ | refine qAM M 3 _ _ rfl rfl hx rfl yB (show (irB s _)[1]? = some (.int .i64 _) from rfl) ?_ | refine qAQ M 0 _ _ rfl rfl hx rfl yB yD yA ?_ | refine qAQ M 2 _ _ rfl rfl hx rfl yB yD yA ?_ | refine qAm M 0 _ _ rfl rfl hx rfl yB yD ?_); clear hx)) | ((with_reducible refine tStore ?_); (refine w_at2 _ _ _ rfl yI yE ?_; intro hx hy; (first | refine qBK M 0 _ _ _ rfl rfl hx rfl _ hy rfl yD yD1 rfl ?_ | refine qAh M 0 _ _ _ rfl rfl hx rfl hy yB ?_ | refine qAE M 0 _ _ _ rfl rfl hx rfl hy yB yA .e rfl ?_ | refine qAE M 0 _ _ _ rfl rfl hx rfl hy yB yA .p rfl ?_ | refine qBW M 0 _ _ _ rfl rfl hx rfl hy yD rfl ?_ | refine qAE M 2 _ _ _ rfl rfl hx rfl hy yB yA .e rfl ?_ | refine qAE M 2 _ _ _ rfl rfl hx rfl hy yB yA .p rfl ?_ | refine qBW M 2 _ _ _ rfl rfl hx rfl hy yD rfl ?_ | refine qAD (m := zeroM) M 2 _ _ _ rfl rfl hx rfl hy rfl yD qAA qAA ?_ | refine qAD M 2 _ _ _ rfl rfl hx rfl hy rfl yD yA qAA ?_ | refine qAD (m := zeroM) M 4 _ _ _ rfl rfl hx rfl hy rfl yD qAA qAA ?_ | refine qAD M 4 _ _ _ rfl rfl hx rfl hy rfl yD yA qAA ?_); clear hx hy M; intro w1 M; (try simp only [setC] at M))) | ((with_reducible refine tM rfl ?_); refine mS ?_; try (clear M; (first | intro g w1 M | intro w1 M); try simp only [setC] at M)) | ((with_reducible first | show Seg _ _ _ _ | show OnlyN _ _ _ _ _); refine rA ?_)) <;> (try conv => arg 5; simp only [apS, setC]))
  exact bodyPost_ret (qAK rfl _ _ gr 0 (msgC zeroM) _ (.int .i64 (er : Int)) rfl rfl (M.ok 2 _ rfl).2.1 Tryz.underlying67 rfl yT) rfl (GivesM.zero M)
end Go.Proofs.YtidadhbaomieiaaGreat
