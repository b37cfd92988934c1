/- Texts of this seat, put together: Ref18Da. Each begins with a remark that says what is proved in it, and under which conditions. -/
import Derived.Test.YtidadhbaomieiaaGreatY
import Derived.Test.YtidadhbaomieiaaGreatZs
set_option maxRecDepth 100000
set_option maxHeartbeats 16000000
namespace Go.Proofs.YtidadhbaomieiaaGreat
open Go.RowKit Go.TL
theorem Read18_k1 (s : List UInt8) (w : World) (hs1 : s.length ≤ 1000000) (hkb : (inStart s).byte.1 = (1 : UInt8).toNat) (hy : (inStart s).byte.2.err = 0) : Calls Tryz.prog 65 #[.string (mkS s)] w (GivesM (readM s) w) := by
 have M := (Mem.start [] w).nil 2
 have hs : s.length ≤ 1000000000 := by omega
 have O : OnS s (inStart s) := OnS.start s
 have YC := fun g w h => qBO g s (inStart s) w h O hs
 have Oy := O.byte
 obtain ⟨y, ey⟩ : ∃ y, y = (inStart s).byte.2 := ⟨_, rfl⟩
 have hb : (inStart s).byte = ((1 : UInt8).toNat, y) := by rw [ey, ← hkb]
 rw [hkb, ← I8_eq, ← ey] at YC
 rw [← ey] at Oy hy
 have R3 := fun L x => @qDg s 1 y hb hy yN L x
 obtain ⟨A, eA⟩ : ∃ A, A = readM s := ⟨_, rfl⟩
 rw [← eA] at R3 ⊢
 clear ey hb eA hkb O
 replace YC := Lib.hid YC
 obtain ⟨⟨n1, x1⟩, T1⟩ : ∃ R, R = y.most 9223372036854775807 := ⟨_, rfl⟩
 have O1 : OnS s x1 := by have := Oy.most 9223372036854775807; rw [← T1] at this; exact this
 have Q1 := fun g w h => qAf g s y w h Oy hs 9223372036854775807 9223372036854775807 rfl yF
 rw [← T1] at Q1
 simp only at Q1
 replace Q1 := Lib.hid Q1
 obtain ⟨⟨LL, xx⟩, hRR⟩ : ∃ R, R = runR [.num .e] (kindL 1) y := ⟨_, rfl⟩
 have E := R3 LL xx hRR.symm (show goodR [.num .e] (kindL 1) y from qAk T1 (trivial))
 rw [qAp T1, qCJ] at hRR
 injection hRR with hR1 hR2
 rw [hR1, hR2] at E
 clear hR1 hR2
 have hlen := O1.len
 have hle := O1.2
 clear R3 T1 O1 Oy
 obtain ⟨yr, yd, ye⟩ := y
 simp only at hy
 subst hy
 obtain ⟨rest, rd, er⟩ := x1
 simp only at E hlen hle
 by_cases he : er = 0
 ·subst he
  by_cases hr : rest = []
  ·rw [if_pos rfl, if_pos hr] at E
   subst E
   have hge : ¬ (rd : Int) < (s.length : Int) := by rw [hr] at hlen; simp at hlen; omega
   clear hr hlen hle
   go_enter Tryz.func65, Tryz.ntmps65
   go_wp2_with ((first | ((with_reducible refine tGuard ?_); first | ((with_reducible refine qAC ?_ ?_); exact dcd) | ((with_reducible refine qAH ?_ ?_); exact dcd) | ((with_reducible refine qAI ?_ ?_); exact dcd)) | ((with_reducible refine tAlloc (some 2) 67 ?_); refine wal M _ rfl rfl (msgC zeroM) yD ?_; clear M; intro gr w1 M) | ((with_reducible refine tAlloc (some 5) 67 ?_); refine wal M _ rfl rfl (msgC zeroM) yD ?_; clear M; intro gm w1 M) | ((with_reducible refine tBox (some 15) ?_); refine w_box M _ _ rfl rfl _ rfl (irB s (inStart s)) rfl ?_; clear M; intro gi w1 M) | (go_at_call 99; (refine (YC.out gi _ (M.ok 1 _ rfl)).mono ?_; rintro e w1 ⟨rfl, U⟩; replace M := M.upd 1 rfl U; clear U; simp only [setC] at M)) | (go_at_call 84; ((first | (with_reducible refine (Q1.out gi _ (M.ok 1 _ rfl)).mono ?_)); rintro e w1 ⟨rfl, U⟩; replace M := M.upd 1 rfl U; clear U; simp only [setC] at M)) | ((with_reducible show Code.wp _ (Code.region 43 _ _) _ _ _); (have MR := M; refine qAB [(1, false), (2, false), (3, false), (4, false), (0, true), (5, true), (6, false)] [(135, .ptr)] [(4, _)] (IxOk MR [1]) 7 yD yD rfl yD (lowA MR 1 2 qAN) (qAJ MR _) ?_; replace M := M.drew; simp only [planC, opAt, gE])) | ((with_reducible refine tLoad ?_); (refine w_at _ _ rfl yI ?_; intro hx; (first | refine qAM M 0 _ _ rfl rfl hx rfl yB (show (msgC _)[0]? = some (.int .u8 (I8 1)) from rfl) ?_ | refine qAM M 1 _ _ rfl rfl hx rfl yB (show (irB s _)[2]? = some (.int .i64 _) from rfl) ?_ | refine qAM M 1 _ _ rfl rfl hx rfl yB (show (irB s _)[1]? = some (.int .i64 _) from rfl) ?_ | refine qAQ M 0 _ _ rfl rfl hx rfl yB yD yA ?_); clear hx)) | ((with_reducible refine tStore ?_); (refine w_at2 _ _ _ rfl yI yE ?_; intro hx hy; (first | refine qAh M 0 _ _ _ rfl rfl hx rfl hy yB ?_ | refine qAE M 0 _ _ _ rfl rfl hx rfl hy yB yA .e rfl ?_ | refine qAD (m := zeroM) M 2 _ _ _ rfl rfl hx rfl hy rfl yD qAA qAA ?_ | refine qAD M 2 _ _ _ rfl rfl hx rfl hy rfl yD yA qAA ?_); clear hx hy M; intro w1 M; (try simp only [setC] at M))) | ((with_reducible refine tM rfl ?_); refine mS ?_; try (clear M; (first | intro g w1 M | intro w1 M); try simp only [setC] at M)) | ((with_reducible first | show Seg _ _ _ _ | show OnlyN _ _ _ _ _); refine rA ?_)) <;> (try conv => arg 5; simp only [apS, setC]))
   exact bodyPost_ret (qAK rfl _ _ gr 0 (msgC _) _ (.int .i64 ((0 : Nat) : Int)) rfl rfl (M.ok 2 _ rfl).2.1 Tryz.underlying67 rfl (by rw [qAs yA]; kernel_rfl)) rfl (⟨.slice none 0 0, .slice none 0 0, rfl, ((M.nil 2).nil 3).sel [0, 1] _ yN rfl⟩)
  ·rw [if_pos rfl, if_neg hr] at E
   subst E
   have hge : (rd : Int) < (s.length : Int) := by have := List.length_pos_iff.2 hr; omega
   clear hr hlen hle
   go_enter Tryz.func65, Tryz.ntmps65
   go_wp2_with ((first | ((with_reducible refine tGuard ?_); first | ((with_reducible refine qAC ?_ ?_); exact dcd) | ((with_reducible refine qAH ?_ ?_); exact dcd) | ((with_reducible refine qAI ?_ ?_); exact dcd)) | ((with_reducible refine tAlloc (some 2) 67 ?_); refine wal M _ rfl rfl (msgC zeroM) yD ?_; clear M; intro gr w1 M) | ((with_reducible refine tAlloc (some 5) 67 ?_); refine wal M _ rfl rfl (msgC zeroM) yD ?_; clear M; intro gm w1 M) | ((with_reducible refine tBox (some 15) ?_); refine w_box M _ _ rfl rfl _ rfl (irB s (inStart s)) rfl ?_; clear M; intro gi w1 M) | (go_at_call 99; (refine (YC.out gi _ (M.ok 1 _ rfl)).mono ?_; rintro e w1 ⟨rfl, U⟩; replace M := M.upd 1 rfl U; clear U; simp only [setC] at M)) | (go_at_call 84; ((first | (with_reducible refine (Q1.out gi _ (M.ok 1 _ rfl)).mono ?_)); rintro e w1 ⟨rfl, U⟩; replace M := M.upd 1 rfl U; clear U; simp only [setC] at M)) | ((with_reducible show Code.wp _ (Code.region 43 _ _) _ _ _); (have MR := M; refine qAB [(1, false), (2, false), (3, false), (4, false), (0, true), (5, true), (6, false)] [(135, .ptr)] [(4, _)] (IxOk MR [1]) 7 yD yD rfl yD (lowA MR 1 2 qAN) (qAJ MR _) ?_; replace M := M.drew; simp only [planC, opAt, gE])) | ((with_reducible refine tLoad ?_); (refine w_at _ _ rfl yI ?_; intro hx; (first | refine qAM M 0 _ _ rfl rfl hx rfl yB (show (msgC _)[0]? = some (.int .u8 (I8 1)) from rfl) ?_ | refine qAM M 1 _ _ rfl rfl hx rfl yB (show (irB s _)[2]? = some (.int .i64 _) from rfl) ?_ | refine qAM M 1 _ _ rfl rfl hx rfl yB (show (irB s _)[1]? = some (.int .i64 _) from rfl) ?_ | refine qAQ M 0 _ _ rfl rfl hx rfl yB yD yA ?_); clear hx)) | ((with_reducible refine tStore ?_); (refine w_at2 _ _ _ rfl yI yE ?_; intro hx hy; (first | refine qAh M 0 _ _ _ rfl rfl hx rfl hy yB ?_ | refine qAE M 0 _ _ _ rfl rfl hx rfl hy yB yA .e rfl ?_ | refine qAD (m := zeroM) M 2 _ _ _ rfl rfl hx rfl hy rfl yD qAA qAA ?_ | refine qAD M 2 _ _ _ rfl rfl hx rfl hy rfl yD yA qAA ?_); clear hx hy M; intro w1 M; (try simp only [setC] at M))) | ((with_reducible refine tM rfl ?_); refine mS ?_; try (clear M; (first | intro g w1 M | intro w1 M); try simp only [setC] at M)) | ((with_reducible first | show Seg _ _ _ _ | show OnlyN _ _ _ _ _); refine rA ?_)) <;> (try conv => arg 5; simp only [apS, setC]))
   exact bodyPost_ret (qAK rfl _ _ gr 0 (msgC zeroM) _ (.int .i64 ((8 : Nat) : Int)) rfl rfl (M.ok 2 _ rfl).2.1 Tryz.underlying67 rfl yT) rfl (GivesM.zero M)
 ·rw [if_neg he] at E
  subst E
  have hz : ((er : Int) == 0) = false := by simp; exact he
  have hz' : ((er : Int) != 0) = true := by simp; exact he
  clear he hlen hle
  go_enter Tryz.func65, Tryz.ntmps65
  go_wp2_with ((first | ((with_reducible refine tGuard ?_); first | ((with_reducible refine qAC ?_ ?_); exact dcd) | ((with_reducible refine qAH ?_ ?_); exact dcd) | ((with_reducible refine qAI ?_ ?_); exact dcd)) | ((with_reducible refine tAlloc (some 2) 67 ?_); refine wal M _ rfl rfl (msgC zeroM) yD ?_; clear M; intro gr w1 M) | ((with_reducible refine tAlloc (some 5) 67 ?_); refine wal M _ rfl rfl (msgC zeroM) yD ?_; clear M; intro gm w1 M) | ((with_reducible refine tBox (some 15) ?_); refine w_box M _ _ rfl rfl _ rfl (irB s (inStart s)) rfl ?_; clear M; intro gi w1 M) | (go_at_call 99; (refine (YC.out gi _ (M.ok 1 _ rfl)).mono ?_; rintro e w1 ⟨rfl, U⟩; replace M := M.upd 1 rfl U; clear U; simp only [setC] at M)) | (go_at_call 84; ((first | (with_reducible refine (Q1.out gi _ (M.ok 1 _ rfl)).mono ?_)); rintro e w1 ⟨rfl, U⟩; replace M := M.upd 1 rfl U; clear U; simp only [setC] at M)) | ((with_reducible show Code.wp _ (Code.region 43 _ _) _ _ _); (have MR := M; refine qAB [(1, false), (2, false), (3, false), (4, false), (0, true), (5, true), (6, false)] [(135, .ptr)] [(4, _)] (IxOk MR [1]) 7 yD yD rfl yD (lowA MR 1 2 qAN) (qAJ MR _) ?_; replace M := M.drew; simp only [planC, opAt, gE])) | ((with_reducible refine tLoad ?_); (refine w_at _ _ rfl yI ?_; intro hx; (first | refine qAM M 0 _ _ rfl rfl hx rfl yB (show (msgC _)[0]? = some (.int .u8 (I8 1)) from rfl) ?_ | refine qAM M 1 _ _ rfl rfl hx rfl yB (show (irB s _)[2]? = some (.int .i64 _) from rfl) ?_ | refine qAM M 1 _ _ rfl rfl hx rfl yB (show (irB s _)[1]? = some (.int .i64 _) from rfl) ?_ | refine qAQ M 0 _ _ rfl rfl hx rfl yB yD yA ?_); clear hx)) | ((with_reducible refine tStore ?_); (refine w_at2 _ _ _ rfl yI yE ?_; intro hx hy; (first | refine qAh M 0 _ _ _ rfl rfl hx rfl hy yB ?_ | refine qAE M 0 _ _ _ rfl rfl hx rfl hy yB yA .e rfl ?_ | refine qAD (m := zeroM) M 2 _ _ _ rfl rfl hx rfl hy rfl yD qAA qAA ?_ | refine qAD M 2 _ _ _ rfl rfl hx rfl hy rfl yD yA qAA ?_); clear hx hy M; intro w1 M; (try simp only [setC] at M))) | ((with_reducible refine tM rfl ?_); refine mS ?_; try (clear M; (first | intro g w1 M | intro w1 M); try simp only [setC] at M)) | ((with_reducible first | show Seg _ _ _ _ | show OnlyN _ _ _ _ _); refine rA ?_)) <;> (try conv => arg 5; simp only [apS, setC]))
  exact bodyPost_ret (qAK rfl _ _ gr 0 (msgC zeroM) _ (.int .i64 (er : Int)) rfl rfl (M.ok 2 _ rfl).2.1 Tryz.underlying67 rfl yT) rfl (GivesM.zero M)
theorem Read18_k3 (s : List UInt8) (w : World) (hs1 : s.length ≤ 1000000) (hkb : (inStart s).byte.1 = (3 : UInt8).toNat) (hy : (inStart s).byte.2.err = 0) : Calls Tryz.prog 65 #[.string (mkS s)] w (GivesM (readM s) w) := by
 have M := (Mem.start [] w).nil 2
 have hs : s.length ≤ 1000000000 := by omega
 have O : OnS s (inStart s) := OnS.start s
 have YC := fun g w h => qBO g s (inStart s) w h O hs
 have Oy := O.byte
 obtain ⟨y, ey⟩ : ∃ y, y = (inStart s).byte.2 := ⟨_, rfl⟩
 have hb : (inStart s).byte = ((3 : UInt8).toNat, y) := by rw [ey, ← hkb]
 rw [hkb, ← I8_eq, ← ey] at YC
 rw [← ey] at Oy hy
 have R3 := fun L x => @qDg s 3 y hb hy yN L x
 obtain ⟨A, eA⟩ : ∃ A, A = readM s := ⟨_, rfl⟩
 rw [← eA] at R3 ⊢
 clear ey hb eA hkb O
 replace YC := Lib.hid YC
 obtain ⟨⟨n1, x1⟩, T1⟩ : ∃ R, R = y.most 9223372036854775807 := ⟨_, rfl⟩
 have O1 : OnS s x1 := by have := Oy.most 9223372036854775807; rw [← T1] at this; exact this
 have Q1 := fun g w h => qAf g s y w h Oy hs 9223372036854775807 9223372036854775807 rfl yF
 rw [← T1] at Q1
 simp only at Q1
 replace Q1 := Lib.hid Q1
 obtain ⟨⟨n2, x2⟩, T2⟩ : ∃ R, R = x1.most 9223372036854775807 := ⟨_, rfl⟩
 have O2 : OnS s x2 := by have := O1.most 9223372036854775807; rw [← T2] at this; exact this
 have Q2 := fun g w h => qAf g s x1 w h O1 hs 9223372036854775807 9223372036854775807 rfl yF
 rw [← T2] at Q2
 simp only at Q2
 replace Q2 := Lib.hid Q2
 obtain ⟨⟨n3, x3⟩, T3⟩ : ∃ R, R = x2.most 9223372036854775807 := ⟨_, rfl⟩
 have O3 : OnS s x3 := by have := O2.most 9223372036854775807; rw [← T3] at this; exact this
 have Q3 := fun g w h => qAf g s x2 w h O2 hs 9223372036854775807 9223372036854775807 rfl yF
 rw [← T3] at Q3
 simp only at Q3
 replace Q3 := Lib.hid Q3
 obtain ⟨⟨LL, xx⟩, hRR⟩ : ∃ R, R = runR [.num .e, .num .a, .num .o] (kindL 3) y := ⟨_, rfl⟩
 have E := R3 LL xx hRR.symm (show goodR [.num .e, .num .a, .num .o] (kindL 3) y from qAk T1 (qAk T2 (qAk T3 (trivial))))
 rw [qAp T1, qAp T2, qAp T3, qCJ] at hRR
 injection hRR with hR1 hR2
 rw [hR1, hR2] at E
 clear hR1 hR2
 have hlen := O3.len
 have hle := O3.2
 clear R3 T1 O1 T2 O2 T3 O3 Oy
 obtain ⟨yr, yd, ye⟩ := y
 simp only at hy
 subst hy
 obtain ⟨rest, rd, er⟩ := x3
 simp only at E hlen hle
 by_cases he : er = 0
 ·subst he
  by_cases hr : rest = []
  ·rw [if_pos rfl, if_pos hr] at E
   subst E
   have hge : ¬ (rd : Int) < (s.length : Int) := by rw [hr] at hlen; simp at hlen; omega
   clear hr hlen hle
   go_enter Tryz.func65, Tryz.ntmps65
   go_wp2_with ((first | ((with_reducible refine tGuard ?_); first | ((with_reducible refine qAC ?_ ?_); exact dcd) | ((with_reducible refine qAH ?_ ?_); exact dcd) | ((with_reducible refine qAI ?_ ?_); exact dcd)) | ((with_reducible refine tAlloc (some 2) 67 ?_); refine wal M _ rfl rfl (msgC zeroM) yD ?_; clear M; intro gr w1 M) | ((with_reducible refine tAlloc (some 5) 67 ?_); refine wal M _ rfl rfl (msgC zeroM) yD ?_; clear M; intro gm w1 M) | ((with_reducible refine tBox (some 15) ?_); refine w_box M _ _ rfl rfl _ rfl (irB s (inStart s)) rfl ?_; clear M; intro gi w1 M) | (go_at_call 99; (refine (YC.out gi _ (M.ok 1 _ rfl)).mono ?_; rintro e w1 ⟨rfl, U⟩; replace M := M.upd 1 rfl U; clear U; simp only [setC] at M)) | (go_at_call 84; ((first | (with_reducible refine (Q1.out gi _ (M.ok 1 _ rfl)).mono ?_) | (with_reducible refine (Q2.out gi _ (M.ok 1 _ rfl)).mono ?_) | (with_reducible refine (Q3.out gi _ (M.ok 1 _ rfl)).mono ?_)); rintro e w1 ⟨rfl, U⟩; replace M := M.upd 1 rfl U; clear U; simp only [setC] at M)) | ((with_reducible show Code.wp _ (Code.region 43 _ _) _ _ _); (have MR := M; refine qAB [(1, false), (2, false), (3, false), (4, false), (0, true), (5, true), (6, false)] [(135, .ptr)] [(4, _)] (IxOk MR [1]) 7 yD yD rfl yD (lowA MR 1 2 qAN) (qAJ MR _) ?_; replace M := M.drew; simp only [planC, opAt, gE])) | ((with_reducible refine tLoad ?_); (refine w_at _ _ rfl yI ?_; intro hx; (first | refine qAM M 0 _ _ rfl rfl hx rfl yB (show (msgC _)[0]? = some (.int .u8 (I8 3)) from rfl) ?_ | refine qAM M 1 _ _ rfl rfl hx rfl yB (show (irB s _)[2]? = some (.int .i64 _) from rfl) ?_ | refine qAM M 1 _ _ rfl rfl hx rfl yB (show (irB s _)[1]? = some (.int .i64 _) from rfl) ?_ | refine qAQ M 0 _ _ rfl rfl hx rfl yB yD yA ?_); clear hx)) | ((with_reducible refine tStore ?_); (refine w_at2 _ _ _ rfl yI yE ?_; intro hx hy; (first | refine qAh M 0 _ _ _ rfl rfl hx rfl hy yB ?_ | refine qAE M 0 _ _ _ rfl rfl hx rfl hy yB yA .e rfl ?_ | refine qAE M 0 _ _ _ rfl rfl hx rfl hy yB yA .a rfl ?_ | refine qAE M 0 _ _ _ rfl rfl hx rfl hy yB yA .o rfl ?_ | refine qAD (m := zeroM) M 2 _ _ _ rfl rfl hx rfl hy rfl yD qAA qAA ?_ | refine qAD M 2 _ _ _ rfl rfl hx rfl hy rfl yD yA qAA ?_); clear hx hy M; intro w1 M; (try simp only [setC] at M))) | ((with_reducible refine tM rfl ?_); refine mS ?_; try (clear M; (first | intro g w1 M | intro w1 M); try simp only [setC] at M)) | ((with_reducible first | show Seg _ _ _ _ | show OnlyN _ _ _ _ _); refine rA ?_)) <;> (try conv => arg 5; simp only [apS, setC]))
   exact bodyPost_ret (qAK rfl _ _ gr 0 (msgC _) _ (.int .i64 ((0 : Nat) : Int)) rfl rfl (M.ok 2 _ rfl).2.1 Tryz.underlying67 rfl (by rw [qAs yA]; kernel_rfl)) rfl (⟨.slice none 0 0, .slice none 0 0, rfl, ((M.nil 2).nil 3).sel [0, 1] _ yN rfl⟩)
  ·rw [if_pos rfl, if_neg hr] at E
   subst E
   have hge : (rd : Int) < (s.length : Int) := by have := List.length_pos_iff.2 hr; omega
   clear hr hlen hle
   go_enter Tryz.func65, Tryz.ntmps65
   go_wp2_with ((first | ((with_reducible refine tGuard ?_); first | ((with_reducible refine qAC ?_ ?_); exact dcd) | ((with_reducible refine qAH ?_ ?_); exact dcd) | ((with_reducible refine qAI ?_ ?_); exact dcd)) | ((with_reducible refine tAlloc (some 2) 67 ?_); refine wal M _ rfl rfl (msgC zeroM) yD ?_; clear M; intro gr w1 M) | ((with_reducible refine tAlloc (some 5) 67 ?_); refine wal M _ rfl rfl (msgC zeroM) yD ?_; clear M; intro gm w1 M) | ((with_reducible refine tBox (some 15) ?_); refine w_box M _ _ rfl rfl _ rfl (irB s (inStart s)) rfl ?_; clear M; intro gi w1 M) | (go_at_call 99; (refine (YC.out gi _ (M.ok 1 _ rfl)).mono ?_; rintro e w1 ⟨rfl, U⟩; replace M := M.upd 1 rfl U; clear U; simp only [setC] at M)) | (go_at_call 84; ((first | (with_reducible refine (Q1.out gi _ (M.ok 1 _ rfl)).mono ?_) | (with_reducible refine (Q2.out gi _ (M.ok 1 _ rfl)).mono ?_) | (with_reducible refine (Q3.out gi _ (M.ok 1 _ rfl)).mono ?_)); rintro e w1 ⟨rfl, U⟩; replace M := M.upd 1 rfl U; clear U; simp only [setC] at M)) | ((with_reducible show Code.wp _ (Code.region 43 _ _) _ _ _); (have MR := M; refine qAB [(1, false), (2, false), (3, false), (4, false), (0, true), (5, true), (6, false)] [(135, .ptr)] [(4, _)] (IxOk MR [1]) 7 yD yD rfl yD (lowA MR 1 2 qAN) (qAJ MR _) ?_; replace M := M.drew; simp only [planC, opAt, gE])) | ((with_reducible refine tLoad ?_); (refine w_at _ _ rfl yI ?_; intro hx; (first | refine qAM M 0 _ _ rfl rfl hx rfl yB (show (msgC _)[0]? = some (.int .u8 (I8 3)) from rfl) ?_ | refine qAM M 1 _ _ rfl rfl hx rfl yB (show (irB s _)[2]? = some (.int .i64 _) from rfl) ?_ | refine qAM M 1 _ _ rfl rfl hx rfl yB (show (irB s _)[1]? = some (.int .i64 _) from rfl) ?_ | refine qAQ M 0 _ _ rfl rfl hx rfl yB yD yA ?_); clear hx)) | ((with_reducible refine tStore ?_); (refine w_at2 _ _ _ rfl yI yE ?_; intro hx hy; (first | refine qAh M 0 _ _ _ rfl rfl hx rfl hy yB ?_ | refine qAE M 0 _ _ _ rfl rfl hx rfl hy yB yA .e rfl ?_ | refine qAE M 0 _ _ _ rfl rfl hx rfl hy yB yA .a rfl ?_ | refine qAE M 0 _ _ _ rfl rfl hx rfl hy yB yA .o rfl ?_ | refine qAD (m := zeroM) M 2 _ _ _ rfl rfl hx rfl hy rfl yD qAA qAA ?_ | refine qAD M 2 _ _ _ rfl rfl hx rfl hy rfl yD yA qAA ?_); clear hx hy M; intro w1 M; (try simp only [setC] at M))) | ((with_reducible refine tM rfl ?_); refine mS ?_; try (clear M; (first | intro g w1 M | intro w1 M); try simp only [setC] at M)) | ((with_reducible first | show Seg _ _ _ _ | show OnlyN _ _ _ _ _); refine rA ?_)) <;> (try conv => arg 5; simp only [apS, setC]))
   exact bodyPost_ret (qAK rfl _ _ gr 0 (msgC zeroM) _ (.int .i64 ((8 : Nat) : Int)) rfl rfl (M.ok 2 _ rfl).2.1 Tryz.underlying67 rfl yT) rfl (GivesM.zero M)
 ·rw [if_neg he] at E
  subst E
  have hz : ((er : Int) == 0) = false := by simp; exact he
  have hz' : ((er : Int) != 0) = true := by simp; exact he
  clear he hlen hle
  go_enter Tryz.func65, Tryz.ntmps65
  go_wp2_with ((first | ((with_reducible refine tGuard ?_); first | ((with_reducible refine qAC ?_ ?_); exact dcd) | ((with_reducible refine qAH ?_ ?_); exact dcd) | ((with_reducible refine qAI ?_ ?_); exact dcd)) | ((with_reducible refine tAlloc (some 2) 67 ?_); refine wal M _ rfl rfl (msgC zeroM) yD ?_; clear M; intro gr w1 M) | ((with_reducible refine tAlloc (some 5) 67 ?_); refine wal M _ rfl rfl (msgC zeroM) yD ?_; clear M; intro gm w1 M) | ((with_reducible refine tBox (some 15) ?_); refine w_box M _ _ rfl rfl _ rfl (irB s (inStart s)) rfl ?_; clear M; intro gi w1 M) | (go_at_call 99; (refine (YC.out gi _ (M.ok 1 _ rfl)).mono ?_; rintro e w1 ⟨rfl, U⟩; replace M := M.upd 1 rfl U; clear U; simp only [setC] at M)) | (go_at_call 84; ((first | (with_reducible refine (Q1.out gi _ (M.ok 1 _ rfl)).mono ?_) | (with_reducible refine (Q2.out gi _ (M.ok 1 _ rfl)).mono ?_) | (with_reducible refine (Q3.out gi _ (M.ok 1 _ rfl)).mono ?_)); rintro e w1 ⟨rfl, U⟩; replace M := M.upd 1 rfl U; clear U; simp only [setC] at M)) | ((with_reducible show Code.wp _ (Code.region 43 _ _) _ _ _); (have MR := M; refine qAB [(1, false), (2, false), (3, false), (4, false), (0, true), (5, true), (6, false)] [(135, .ptr)] [(4, _)] (IxOk MR [1]) 7 yD yD rfl yD (lowA MR 1 2 qAN) (qAJ MR _) ?_; replace M := M.drew; simp only [planC, opAt, gE])) | ((with_reducible refine tLoad ?_); (refine w_at _ _ rfl yI ?_; intro hx; (first | refine qAM M 0 _ _ rfl rfl hx rfl yB (show (msgC _)[0]? = some (.int .u8 (I8 3)) from rfl) ?_ | refine qAM M 1 _ _ rfl rfl hx rfl yB (show (irB s _)[2]? = some (.int .i64 _) from rfl) ?_ | refine qAM M 1 _ _ rfl rfl hx rfl yB (show (irB s _)[1]? = some (.int .i64 _) from rfl) ?_ | refine qAQ M 0 _ _ rfl rfl hx rfl yB yD yA ?_); clear hx)) | ((with_reducible refine tStore ?_); (refine w_at2 _ _ _ rfl yI yE ?_; intro hx hy; (first | refine qAh M 0 _ _ _ rfl rfl hx rfl hy yB ?_ | refine qAE M 0 _ _ _ rfl rfl hx rfl hy yB yA .e rfl ?_ | refine qAE M 0 _ _ _ rfl rfl hx rfl hy yB yA .a rfl ?_ | refine qAE M 0 _ _ _ rfl rfl hx rfl hy yB yA .o rfl ?_ | refine qAD (m := zeroM) M 2 _ _ _ rfl rfl hx rfl hy rfl yD qAA qAA ?_ | refine qAD M 2 _ _ _ rfl rfl hx rfl hy rfl yD yA qAA ?_); clear hx hy M; intro w1 M; (try simp only [setC] at M))) | ((with_reducible refine tM rfl ?_); refine mS ?_; try (clear M; (first | intro g w1 M | intro w1 M); try simp only [setC] at M)) | ((with_reducible first | show Seg _ _ _ _ | show OnlyN _ _ _ _ _); refine rA ?_)) <;> (try conv => arg 5; simp only [apS, setC]))
  exact bodyPost_ret (qAK rfl _ _ gr 0 (msgC zeroM) _ (.int .i64 (er : Int)) rfl rfl (M.ok 2 _ rfl).2.1 Tryz.underlying67 rfl yT) rfl (GivesM.zero M)
end Go.Proofs.YtidadhbaomieiaaGreat
