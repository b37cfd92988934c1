/- Texts of this seat, put together: SealB, Ref05H, AesR, RefA1, RowsW. Each begins with a remark that says what is proved in it, and under which conditions. -/
import Derived.Test.YtidadhbaomieiaaGreatY
import Derived.Test.YtidadhbaomieiaaGreatZd
import Derived.Test.YtidadhbaomieiaaGreatZh
import Derived.Test.YtidadhbaomieiaaGreatZi
set_option maxRecDepth 100000
set_option maxHeartbeats 16000000
namespace Go
namespace TL
theorem qDx {k : Int} {d : List UInt8} (h : rightE k d = true) : 0 ≤ k ∧ k ≤ 1048576 ∧ d.length ≤ 8192 := by
 unfold rightE at h
 simp only [Bool.and_eq_true, decide_eq_true_eq] at h
 omega
end TL
end Go
namespace Go.Proofs.YtidadhbaomieiaaGreat
open Go.RowKit Go.TL
theorem Close_ok (key : List UInt8) (k : Nat) (b : UInt32) (n : UInt64) (about text : List UInt8) (w : World) (hk : key.length = 32) (h : k ≤ 1048576) (hx : text.length ≤ 8192) (ha : about.length ≤ 100000) :
  Calls Tryz.prog 39 #[.agg (bs key).toArray, .int .i64 k, .int .u32 (I32 b), .int .u64 (I64 n), .string (mkS about), .string (mkS text)] w fun e w' => e = .returned (.tuple #[.agg (envC k b n (sealL key b n text) (tagL key k b n about (sealL key b n text))).toArray, .int .i64 0]) ∧ Below w.heap.size w w' := by
 have M := Mem.start [] w
 have R := fun w => qCg k b n [] zeroT w
 have e1 : rightE (k : Int) [] = true := by unfold rightE; simp; omega
 rw [e1] at R
 clear e1
 have SC := fun w => qEl key k b n [] zeroT text w hk yF
 have hsl : (sealL key b n text).length ≤ 100000 := by unfold sealL; rw [qAy]; omega
 have TC := fun w => qFN key k b n (sealL key b n text) zeroT about w hk qAO h ha hsl
 have hr : (tagL key k b n about (sealL key b n text)).length = 32 := qAq _ _
 obtain ⟨s, es⟩ : ∃ s, s = sealL key b n text := ⟨_, rfl⟩
 rw [← es] at SC TC hr
 rw [← es]
 obtain ⟨t, et⟩ : ∃ t, t = tagL key k b n about s := ⟨_, rfl⟩
 rw [← et] at TC hr
 rw [← et]
 replace R := Lib.hid R
 replace SC := Lib.hid SC
 replace TC := Lib.hid TC
 clear es et hsl
 have hx' : (text.length : Int) ≤ 8192 := by omega
 go_enter Tryz.func39, Tryz.ntmps39
 go_wp2_with ((first | (go_at_call 75; (refine (SC.out _).mono ?_; rintro e w1 ⟨rfl, hb⟩; replace M := M.call hb; clear hb)) | (go_at_call 76; (refine (TC.out _).mono ?_; rintro e w1 ⟨rfl, hb⟩; replace M := M.call hb; clear hb)) | ((with_reducible refine tBox (some 6) ?_); refine w_box M _ _ rfl rfl _ rfl (bs key) rfl ?_; clear M; intro gk w1 M) | ((with_reducible refine tAlloc (some 12) 75 ?_); refine wal M _ rfl rfl (envC 0 0 0 [] zeroT) yD ?_; clear M; intro gr w1 M) | ((with_reducible refine tAlloc (some 14) 75 ?_); refine wal M _ rfl rfl (envC 0 0 0 [] zeroT) yD ?_; clear M; intro gx w1 M) | (go_at_call 74; (refine (R.out _).mono ?_; rintro e w1 ⟨rfl, hb⟩; replace M := M.call hb; clear hb)) | ((with_reducible refine tLoad ?_); refine w_at _ _ rfl yI ?_; intro hx; (first | refine qAu M _ _ _ rfl yY hx rfl yB yB yC ?_ | refine qAj M _ _ _ rfl yY hx rfl yB yB yC ?_); clear hx) | ((with_reducible refine tStore ?_); refine w_at2 _ _ _ rfl yE yE ?_; intro hx hy; (first | refine qAL M _ _ _ _ rfl yY hx rfl hy rfl yB yC yC ?_ | refine qAL (k := 0) (b := 0) (n := 0) (d := []) (tg := zeroT) M _ _ _ _ rfl yY hx rfl hy rfl yB qAO yC ?_ | refine qAL (tg := zeroT) M _ _ _ _ rfl yY hx rfl hy rfl yB qAO yC ?_ | refine qAd M _ _ _ _ rfl yY hx rfl hy yB yC yC ?_ | refine qAU M _ _ _ _ rfl yY hx rfl hy yB ?_ | refine qAe M _ _ _ _ rfl yY hx rfl hy yB ?_); clear hx hy M; intro w1 M; (try simp only [setC] at M)) | ((with_reducible refine tConv _ 70 9 ?_); (first | refine qAT M _ _ _ _ _ rfl rfl yY rfl yC Tryz.underlying70 Tryz.underlying5 Tryz.underlying9 ?_)) | ((with_reducible refine tM rfl ?_); refine mB ?_; try (clear M; (first | intro g w1 M | intro w1 M); try simp only [setC] at M)) | ((with_reducible refine tGuard ?_); refine gdC ?_ ?_ <;> (intro hgd; rw [hgd]; try (exfalso; simp at hgd; omega)))) <;> (try conv => arg 5; simp only [Act.put, List.setIfInBounds_toArray, setC]))
 exact bodyPost_ret (qAl rfl _ _ gr 0 (envC k b n s t) _ (.int .i64 0) rfl rfl (M.ok 1 _ rfl).2.1 Tryz.underlying75 rfl (by rw [qBB, hr]; kernel_rfl)) rfl ⟨rfl, M.below⟩
theorem Open_mac (key : List UInt8) (k : Nat) (b : UInt32) (n : UInt64) (d t about : List UInt8) (w : World) (hk : key.length = 32) (ht : t.length = 32) (h : rightE k d = true) (ha : about.length ≤ 100000) (hne : t ≠ tagL key k b n about d) :
  Calls Tryz.prog 43 #[.agg (bs key).toArray, .agg (envC k b n d t).toArray, .string (mkS about)] w fun e w' => e = .returned (.tuple #[.string (mkS []), .int .i64 13]) ∧ Below w.heap.size w w' := by
 have M := Mem.start [] w
 have R := fun w => qCg k b n d t w
 obtain ⟨_, hkk, hdd⟩ := qDx h
 have TC := fun w => qFN key k b n d t about w hk ht yF ha yF
 have hr : (tagL key k b n about d).length = 32 := qAq _ _
 obtain ⟨u, eu⟩ : ∃ u, u = tagL key k b n about d := ⟨_, rfl⟩
 rw [← eu] at TC hr hne
 have EC := fun w => Equal_c t u ht hr w
 rw [beq_eq_false_iff_ne.2 hne] at EC
 rw [h] at R
 replace R := Lib.hid R
 replace TC := Lib.hid TC
 replace EC := Lib.hid EC
 clear h eu hne
 go_enter Tryz.func43, Tryz.ntmps43
 go_wp2_with ((first | ((with_reducible refine tBox (some 3) ?_); refine w_box M _ _ rfl rfl _ rfl (bs key) rfl ?_; clear M; intro gk w1 M) | ((with_reducible refine tBox (some 4) ?_); refine w_box M _ _ rfl rfl _ rfl (envC k b n d t) rfl ?_; clear M; intro gx w1 M) | (go_at_call 74; (refine (R.out _).mono ?_; rintro e w1 ⟨rfl, hb⟩; replace M := M.call hb; clear hb)) | (go_at_call 76; (refine (TC.out _).mono ?_; rintro e w1 ⟨rfl, hb⟩; replace M := M.call hb; clear hb)) | (go_at_call 83; (refine (EC.out _).mono ?_; rintro e w1 ⟨rfl, hb⟩; replace M := M.call hb; clear hb)) | ((with_reducible show Code.wp _ (Code.region 3 _ _) _ _ _); (have MR := M; refine qAB [(0, false), (4, false), (1, false), (2, false), (3, false), (5, true), (6, true), (7, false), (8, false)] [] [(1, _), (2, _), (3, _)] (IxOk MR [0, 1]) 9 yD yD rfl yD (qAa (qEu MR 0 rfl rfl yN yB yB yA1) (lowA MR 1 0 (qAa (qCd MR 0 rfl rfl yN yB yB yA1) qAN))) (qAJ MR _) ?_; replace M := M.drew; simp only [planC, opAt, gE])) | ((with_reducible refine tLoad ?_); refine w_at _ _ rfl yI ?_; intro hx; (first | refine qAu M _ _ _ rfl yL hx rfl yB yB yC ?_ | refine qAj M _ _ _ rfl yL hx rfl yB yB yC ?_); clear hx) | ((with_reducible refine tStore ?_); refine w_at2 _ _ _ rfl yE yE ?_; intro hx hy; (first | refine qAL M _ _ _ _ rfl yL hx rfl hy rfl yB yC yC ?_ | refine qAL (k := 0) (b := 0) (n := 0) (d := []) (tg := zeroT) M _ _ _ _ rfl yL hx rfl hy rfl yB qAO yC ?_ | refine qAL (tg := zeroT) M _ _ _ _ rfl yL hx rfl hy rfl yB qAO yC ?_ | refine qAd M _ _ _ _ rfl yL hx rfl hy yB yC yC ?_ | refine qAU M _ _ _ _ rfl yL hx rfl hy yB ?_ | refine qAe M _ _ _ _ rfl yL hx rfl hy yB ?_); clear hx hy M; intro w1 M; (try simp only [setC] at M)) | ((with_reducible refine tConv _ 70 9 ?_); (first | refine qAT M _ _ _ _ _ rfl rfl yL rfl yC Tryz.underlying70 Tryz.underlying5 Tryz.underlying9 ?_)) | ((with_reducible refine tM rfl ?_); refine mB ?_; try (clear M; (first | intro g w1 M | intro w1 M); try simp only [setC] at M)) | ((with_reducible first | show Seg _ _ _ _ | show OnlyN _ _ _ _ _); refine rA ?_) | ((with_reducible refine tGuard ?_); refine gdC ?_ ?_ <;> (intro hgd; rw [hgd]; try (exfalso; simp at hgd; omega)))) <;> (try conv => arg 5; simp only [Act.put, List.setIfInBounds_toArray, setC]))
 go_ret2
 exact ⟨rfl, M.below⟩
theorem Open_ok (key : List UInt8) (k : Nat) (b : UInt32) (n : UInt64) (d about : List UInt8) (w : World) (hk : key.length = 32) (h : rightE k d = true) (ha : about.length ≤ 100000) :
  Calls Tryz.prog 43 #[.agg (bs key).toArray, .agg (envC k b n d (tagL key k b n about d)).toArray, .string (mkS about)] w fun e w' => e = .returned (.tuple #[.string (mkS (sealL key b n d)), .int .i64 0]) ∧ Below w.heap.size w w' := by
 have M := Mem.start [] w
 obtain ⟨_, hkk, hdd⟩ := qDx h
 have ht : (tagL key k b n about d).length = 32 := qAq _ _
 have TC := fun w => qFN key k b n d (tagL key k b n about d) about w hk ht yF ha yF
 obtain ⟨t, et⟩ : ∃ t, t = tagL key k b n about d := ⟨_, rfl⟩
 rw [← et] at TC ht
 rw [← et]
 have R := fun w => qCg k b n d t w
 have EC := fun w => Equal_c t t ht ht w
 rw [beq_self_eq_true] at EC
 rw [h] at R
 have SC := fun w => qEl key k b n d t d w hk yF
 obtain ⟨s, es⟩ : ∃ s, s = sealL key b n d := ⟨_, rfl⟩
 rw [← es] at SC
 rw [← es]
 replace R := Lib.hid R
 replace TC := Lib.hid TC
 replace EC := Lib.hid EC
 replace SC := Lib.hid SC
 clear h et es
 go_enter Tryz.func43, Tryz.ntmps43
 go_wp2_with ((first | ((with_reducible refine tBox (some 3) ?_); refine w_box M _ _ rfl rfl _ rfl (bs key) rfl ?_; clear M; intro gk w1 M) | ((with_reducible refine tBox (some 4) ?_); refine w_box M _ _ rfl rfl _ rfl (envC k b n d t) rfl ?_; clear M; intro gx w1 M) | (go_at_call 74; (refine (R.out _).mono ?_; rintro e w1 ⟨rfl, hb⟩; replace M := M.call hb; clear hb)) | (go_at_call 76; (refine (TC.out _).mono ?_; rintro e w1 ⟨rfl, hb⟩; replace M := M.call hb; clear hb)) | (go_at_call 75; (refine (SC.out _).mono ?_; rintro e w1 ⟨rfl, hb⟩; replace M := M.call hb; clear hb)) | (go_at_call 83; (refine (EC.out _).mono ?_; rintro e w1 ⟨rfl, hb⟩; replace M := M.call hb; clear hb)) | ((with_reducible show Code.wp _ (Code.region 3 _ _) _ _ _); (have MR := M; refine qAB [(0, false), (4, false), (1, false), (2, false), (3, false), (5, true), (6, true), (7, false), (8, false)] [] [(1, _), (2, _), (3, _)] (IxOk MR [0, 1]) 9 yD yD rfl yD (qAa (qEu MR 0 rfl rfl yN yB yB yA1) (lowA MR 1 0 (qAa (qCd MR 0 rfl rfl yN yB yB yA1) qAN))) (qAJ MR _) ?_; replace M := M.drew; simp only [planC, opAt, gE])) | ((with_reducible refine tLoad ?_); refine w_at _ _ rfl yI ?_; intro hx; (first | refine qAu M _ _ _ rfl yL hx rfl yB yB yC ?_ | refine qAj M _ _ _ rfl yL hx rfl yB yB yC ?_); clear hx) | ((with_reducible refine tStore ?_); refine w_at2 _ _ _ rfl yE yE ?_; intro hx hy; (first | refine qAL M _ _ _ _ rfl yL hx rfl hy rfl yB yC yC ?_ | refine qAL (k := 0) (b := 0) (n := 0) (d := []) (tg := zeroT) M _ _ _ _ rfl yL hx rfl hy rfl yB qAO yC ?_ | refine qAL (tg := zeroT) M _ _ _ _ rfl yL hx rfl hy rfl yB qAO yC ?_ | refine qAd M _ _ _ _ rfl yL hx rfl hy yB yC yC ?_ | refine qAU M _ _ _ _ rfl yL hx rfl hy yB ?_ | refine qAe M _ _ _ _ rfl yL hx rfl hy yB ?_); clear hx hy M; intro w1 M; (try simp only [setC] at M)) | ((with_reducible refine tConv _ 70 9 ?_); (first | refine qAT M _ _ _ _ _ rfl rfl yL rfl yC Tryz.underlying70 Tryz.underlying5 Tryz.underlying9 ?_)) | ((with_reducible refine tM rfl ?_); refine mB ?_; try (clear M; (first | intro g w1 M | intro w1 M); try simp only [setC] at M)) | ((with_reducible first | show Seg _ _ _ _ | show OnlyN _ _ _ _ _); refine rA ?_) | ((with_reducible refine tGuard ?_); refine gdC ?_ ?_ <;> (intro hgd; rw [hgd]; try (exfalso; simp at hgd; omega)))) <;> (try conv => arg 5; simp only [Act.put, List.setIfInBounds_toArray, setC]))
 go_ret2
 exact ⟨rfl, M.below⟩
theorem SealBytes_ok (k : Nat) (b : UInt32) (n : UInt64) (d t : List UInt8) (w : World) (ht : t.length = 32) (h : rightE k d = true) :
  Calls Tryz.prog 41 #[.agg (envC k b n d t).toArray] w fun e w' => e = .returned (.tuple #[.string (mkS (headL k b n ++ (textL d ++ t))), .int .i64 0]) ∧ Below w.heap.size w w' := by
 have M := Mem.start [] w
 have R := fun w => qCg k b n d t w
 obtain ⟨_, hkk, hdd⟩ := qDx h
 rw [h] at R
 have hh := qEJ k b n yF
 have NC := fun (g : Nat) (v : Value) (w : World) hok => numbers_c g v [] k b n d t w yF yB1 hok
 have T2 := fun (g : Nat) (v : Value) (w : World) hok => qBJ g v (headL k b n) d w yF yF hok
 rw [List.nil_append] at NC
 rw [← List.append_assoc]
 obtain ⟨h0, eh⟩ : ∃ x, x = headL k b n := ⟨_, rfl⟩
 rw [← eh] at NC T2
 rw [← eh]
 obtain ⟨u, eu⟩ : ∃ x, x = h0 ++ textL d := ⟨_, rfl⟩
 rw [← eu] at T2
 rw [← eu]
 have hul : u.length ≤ 100000 := by rw [eu, eh, List.length_append]; unfold textL; have := qAG d.length yF; simp; omega
 replace R := Lib.hid R
 replace NC := Lib.hid NC
 replace T2 := Lib.hid T2
 clear h eh eu hh
 go_enter Tryz.func41, Tryz.ntmps41
 go_wp2_with ((first | ((with_reducible refine tBox (some 1) ?_); refine w_box M _ _ rfl rfl _ rfl (envC k b n d t) rfl ?_; clear M; intro gx w1 M) | (((with_reducible refine tAlloc (some 4) 155 ?_); refine wal M _ rfl rfl ([.slice none 0 0]) yD ?_; clear M; intro go w1 M); replace M := M.outNew) | (go_at_call 74; (refine (R.out _).mono ?_; rintro e w1 ⟨rfl, hb⟩; replace M := M.call hb; clear hb)) | (go_at_call 79; (refine (NC.out _ _ _ (M.ok 0 _ rfl)).mono ?_; rintro e w2 ⟨rfl, v1, U⟩; replace M := M.upd 0 rfl U; clear U; simp only [List.set_cons_zero] at M)) | (go_at_call 80; (refine (T2.out _ _ _ (M.ok 0 _ rfl)).mono ?_; rintro e w2 ⟨rfl, v2, U⟩; replace M := M.upd 0 rfl U; clear U; simp only [List.set_cons_zero] at M)) | (go_at_call 81; (refine (qBT _ _ _ _ (M.ok 0 _ rfl)).mono ?_; rintro e w1 ⟨rfl, rfl⟩)) | ((with_reducible show Code.wp _ (Code.region 6 _ _) _ _ _); (have MR := M; refine qAB [(1, false), (2, false), (3, false), (0, true), (4, false), (5, false), (6, false)] [(13, .str), (16, .str)] [(3, _)] (IxOk MR [1]) 7 yD yD rfl yD (qAa (stab_strTag MR 1 rfl rfl yN yA1 Tryz.underlying70 Tryz.underlying5 Tryz.underlying9) qAN) (qAJ MR _) ?_; replace M := M.drew; simp only [planC, opAt, gE])) | ((with_reducible refine tLoad ?_); refine w_at _ _ rfl yI ?_; intro hx; (first | refine qAu M _ _ _ rfl yY hx rfl yB yB yC ?_ | refine qAj M _ _ _ rfl yY hx rfl yB yB yC ?_); clear hx) | ((with_reducible refine tStore ?_); refine w_at2 _ _ _ rfl yE yE ?_; intro hx hy; (first | refine qAL M _ _ _ _ rfl yY hx rfl hy rfl yB yC yC ?_ | refine qAL (k := 0) (b := 0) (n := 0) (d := []) (tg := zeroT) M _ _ _ _ rfl yY hx rfl hy rfl yB qAO yC ?_ | refine qAL (tg := zeroT) M _ _ _ _ rfl yY hx rfl hy rfl yB qAO yC ?_ | refine qAd M _ _ _ _ rfl yY hx rfl hy yB yC yC ?_ | refine qAU M _ _ _ _ rfl yY hx rfl hy yB ?_ | refine qAe M _ _ _ _ rfl yY hx rfl hy yB ?_); clear hx hy M; intro w1 M; (try simp only [setC] at M)) | ((with_reducible refine tConv _ 70 9 ?_); (first | refine qAT M _ _ _ _ _ rfl rfl yY rfl yC Tryz.underlying70 Tryz.underlying5 Tryz.underlying9 ?_)) | ((with_reducible refine tM rfl ?_); refine mB ?_; try (clear M; (first | intro g w1 M | intro w1 M); try simp only [setC] at M)) | ((with_reducible first | show Seg _ _ _ _ | show OnlyN _ _ _ _ _); refine rA ?_) | ((with_reducible refine tGuard ?_); refine gdC ?_ ?_ <;> (intro hgd; rw [hgd]; try (exfalso; simp at hgd; omega)))) <;> (try conv => arg 5; simp only [Act.put, List.setIfInBounds_toArray, setC]))
 go_ret2
 exact ⟨rfl, M.below⟩
end Go.Proofs.YtidadhbaomieiaaGreat

namespace Go.Proofs.YtidadhbaomieiaaGreat
open Go.RowKit Go.TL
theorem qGJ (k : Int) (b : UInt32) (n : UInt64) (d t : List UInt8) (w : World) :
  Calls Tryz.prog 70 #[.agg (envC k b n d t).toArray] w fun e w' => e = .returned (.bool (rightE k d)) ∧ Below w.heap.size w w' := by
 have M := Mem.start [] w
 unfold rightE
 by_cases h1 : 0 ≤ k
 rw [decide_eq_true h1]
 by_cases h2 : k ≤ 1048576
 rw [decide_eq_true h2]
 by_cases h3 : (d.length : Int) ≤ 8192
 rw [decide_eq_true h3]
 rotate_left
 rw [decide_eq_false h3]
 rotate_left
 rw [decide_eq_false h2]
 rotate_left
 rw [decide_eq_false h1]
 all_goals
  go_enter Tryz.func70, Tryz.ntmps70
  go_wp2_with ((first | ((with_reducible refine tBox (some 1) ?_); refine w_box M _ _ rfl rfl _ rfl (envC k b n d t) rfl ?_; clear M; intro gx w1 M) | ((with_reducible refine tGuard ?_); first | ((with_reducible refine qAC ?_ ?_); exact dcd) | ((with_reducible refine qAH ?_ ?_); exact dcd) | ((with_reducible refine qAI ?_ ?_); exact dcd)) | ((with_reducible refine tM rfl ?_); refine mS ?_; try (clear M; (first | intro g w1 M | intro w1 M); try simp only [setC] at M))) <;> (try conv => arg 5; simp only [Act.put, List.setIfInBounds_toArray, setC]))
  go_ret
  exact ⟨rfl, M.below⟩
theorem refHead_c (k : Nat) (b : UInt32) (n : UInt64) (d t : List UInt8) (w : World) (hk : k ≤ 1048576) :
  Calls Tryz.prog 71 #[.agg (envC k b n d t).toArray] w fun e w' => e = .returned (.string (mkS (headL k b n))) ∧ Below w.heap.size w w' := by
 have M := Mem.start [] w
 have h1 := qAG k yF
 have h2 := qAG b.toNat (by have := b.toNat_lt; omega)
 have h3 := qAG n.toNat n.toNat_lt
 have N1 := fun w => qFx k (k : Int) rfl w yF
 have N2 := fun w => qFx b.toNat (I64 b.toUInt64) (by rw [qBU, UInt32.toNat_toUInt64]) w (by have := b.toNat_lt; omega)
 have N3 := fun w => qFx n.toNat (I64 n) (by rw [qBU]) w n.toNat_lt
 have e1 := qBG k yF
 go_enter Tryz.func71, Tryz.ntmps71
 go_wp2_with ((first | ((with_reducible refine tBox (some 1) ?_); refine w_box M _ _ rfl rfl _ rfl (envC k b n d t) rfl ?_; clear M; intro gx w1 M) | ((with_reducible show Code.wp _ (Code.region 1 _ _) _ _ _); (have MR := M; refine qAB [(0, false), (4, false), (9, false), (1, false), (2, false), (5, false), (6, false), (10, false), (3, true), (7, true), (8, false), (11, true), (12, false), (13, false)] [(4, .int), (8, .int), (6, .str), (10, .str), (11, .str), (14, .str)] [(1, _), (5, _), (10, _)] (IxOk MR [0]) 14 yD yD rfl yD (lowA MR 0 0 (lowA MR 0 1 (lowA MR 0 2 qAN))) (qAJ MR _) ?_; replace M := M.drew; simp only [planC, opAt, gE])) | (go_at_call 107; ((first | (with_reducible refine (N1 _).mono ?_) | (with_reducible refine (N2 _).mono ?_) | (with_reducible refine (N3 _).mono ?_)); rintro e w1 ⟨rfl, hb⟩; replace M := M.call hb; clear hb)) | ((with_reducible refine tM rfl ?_); refine mS ?_; try (clear M; (first | intro g w1 M | intro w1 M); try simp only [setC] at M)) | ((with_reducible first | show Seg _ _ _ _ | show OnlyN _ _ _ _ _); refine rA ?_) | ((with_reducible refine tGuard ?_); refine gdC ?_ ?_ <;> (intro hgd; rw [hgd]; try (exfalso; simp at hgd; omega)))) <;> (try conv => arg 5; simp only [Act.put, List.setIfInBounds_toArray, setC]))
 go_ret
 exact ⟨rfl, M.below⟩
end Go.Proofs.YtidadhbaomieiaaGreat

namespace Go
namespace TL
theorem qGS {α : Type} (f : Nat → α → α) (h : ∀ i j s, f i s = f j s) : ∀ (n : Nat) (s : α), iterN f (n + 1) s = iterN f n (f 0 s)
 | 0, _ => rfl
 | n + 1, s => by rw [qAY, qGS f h n s, qAY]; exact h _ _ _
/-! ### times, S -/
structure TmS where
 n : UInt8
 a : UInt8
 b : UInt8
def tmStep (_ : Nat) (x : TmS) : TmS := ⟨if x.b &&& 1 = 1 then x.n ^^^ x.a else x.n, if 128 ≤ x.a then x.a * 2 ^^^ 27 else x.a * 2, x.b / 2⟩
def timesS (a b : UInt8) (n : Nat) : TmS := iterN tmStep n ⟨0, a, b⟩
def timesL (a b : UInt8) : UInt8 := (timesS a b 8).n
def mirL (b : UInt8) (n : Nat) : UInt8 := iterN (fun i m => if timesL b (UInt8.ofNat (i + 1)) = 1 then UInt8.ofNat (i + 1) else m) n 0
def affL (m : UInt8) : UInt8 := m ^^^ rl m 1 ^^^ rl m 2 ^^^ rl m 3 ^^^ rl m 4 ^^^ 99
def refS (b : UInt8) : UInt8 := affL (mirL b 255)
def refA (n : Nat) : List UInt8 := (List.range n).map fun i => refS (UInt8.ofNat i)
def tmN : Nat → Nat → Nat → Nat → Nat
 | 0, n, _, _ => n
 | k + 1, n, a, b => tmN k (bif b % 2 == 1 then n ^^^ a else n) (bif Nat.ble 128 a then (a * 2 % 256) ^^^ 27 else a * 2) (b / 2)
def mirN (b : Nat) : Nat → Nat
 | 0 => 0
 | n + 1 => bif tmN 8 0 b (n + 1) == 1 then n + 1 else mirN b n
theorem tmN_eq : ∀ (k : Nat) (x : TmS), (iterN tmStep k x).n.toNat = tmN k x.n.toNat x.a.toNat x.b.toNat
 | 0, _ => rfl
 | k + 1, x => by
  have ha := x.a.toNat_lt
  rw [qGS tmStep (fun _ _ _ => rfl), tmN_eq k]
  unfold tmStep
  simp only
  rw [tmN]
  congr 1
  ·have e : (x.b &&& 1 = 1) ↔ (x.b.toNat % 2 == 1) = true := by
    rw [← UInt8.toNat_inj, UInt8.toNat_and]
    rw [show (1 : UInt8).toNat = 1 from rfl, Nat.and_one_is_mod]
    simp
   by_cases h : x.b &&& 1 = 1
   ·rw [if_pos h, e.1 h, UInt8.toNat_xor]; rfl
   ·rw [if_neg h]
    cases hb : x.b.toNat % 2 == 1
    ·rfl
    ·exact absurd (e.2 hb) h
  ·by_cases h : 128 ≤ x.a
   ·have h' : 128 ≤ x.a.toNat := by simpa using UInt8.le_iff_toNat_le.1 h
    rw [if_pos h, UInt8.toNat_xor, UInt8.toNat_mul, show Nat.ble 128 x.a.toNat = true from Nat.ble_eq ▸ h']; rfl
   ·have h' : ¬ 128 ≤ x.a.toNat := fun hh => h (UInt8.le_iff_toNat_le.2 (by simpa using hh))
    have hb : Nat.ble 128 x.a.toNat = false := by
     cases hq : Nat.ble 128 x.a.toNat
     ·rfl
     ·exact absurd (Nat.ble_eq ▸ hq) h'
    rw [if_neg h, UInt8.toNat_mul, hb, show (2 : UInt8).toNat = 2 from rfl, Nat.mod_eq_of_lt yF]; rfl
theorem timesL_eq (a b : UInt8) : (timesL a b).toNat = tmN 8 0 a.toNat b.toNat := tmN_eq 8 ⟨0, a, b⟩
theorem mirN_eq (b : UInt8) : ∀ (n : Nat), n ≤ 255 → (mirL b n).toNat = mirN b.toNat n
 | 0, _ => rfl
 | n + 1, h => by
  have ih := mirN_eq b n yF
  unfold mirL at ih ⊢
  rw [qAY, mirN]
  have e1 : (UInt8.ofNat (n + 1)).toNat = n + 1 := by rw [UInt8.toNat_ofNat']; omega
  have e := timesL_eq b (UInt8.ofNat (n + 1))
  rw [e1] at e
  rw [← e]
  by_cases h1 : timesL b (UInt8.ofNat (n + 1)) = 1
  ·rw [if_pos h1, h1, e1]; rfl
  ·rw [if_neg h1]
   have : ((timesL b (UInt8.ofNat (n + 1))).toNat == 1) = false := by
    rw [beq_eq_false_iff_ne]
    exact fun hh => h1 (UInt8.toNat_inj.1 hh)
   rw [this]; exact ih
theorem box_mir : boxL = (List.range 256).map fun i => affL (UInt8.ofNat (mirN i 255)) := by decide +kernel
theorem refA_box : refA 256 = boxL := by
 rw [box_mir]
 unfold refA
 refine List.map_congr_left fun i hi => ?_
 have hi' : i < 256 := List.mem_range.1 hi
 unfold refS
 congr 1
 apply UInt8.toNat_inj.1
 have e1 : (UInt8.ofNat i).toNat = i := by rw [UInt8.toNat_ofNat']; omega
 have e := mirN_eq (UInt8.ofNat i) 255 yF
 rw [e1] at e
 rw [e, UInt8.toNat_ofNat', ← e]
 have := (mirL (UInt8.ofNat i) 255).toNat_lt
 omega
theorem times_two (a : UInt8) : timesL a 2 = tw a := by
 have h : ∀ i, i < 256 → timesL (UInt8.ofNat i) 2 = tw (UInt8.ofNat i) := by decide +kernel
 have := h a.toNat a.toNat_lt
 rwa [UInt8.ofNat_toNat] at this
theorem times_three (a : UInt8) : timesL a 3 = tw a ^^^ a := by
 have h : ∀ i, i < 256 → timesL (UInt8.ofNat i) 3 = tw (UInt8.ofNat i) ^^^ UInt8.ofNat i := by decide +kernel
 have := h a.toNat a.toNat_lt
 rwa [UInt8.ofNat_toNat] at this
/-! ### A key's words -/
abbrev wd (w : List (List UInt8)) (i : Nat) : List UInt8 := w.getD i []
def rw2 (w : List (List UInt8)) (i : Nat) : List UInt8 := if i % 8 = 0 then rotT (wd w (i - 1)) else wd w (i - 1)
def rw3 (s : List UInt8) (w : List (List UInt8)) (i : Nat) : List UInt8 := if i % 8 = 0 ∨ i % 8 = 4 then iterN (subT s) 4 (rw2 w i) else rw2 w i
def rpw (n : Nat) : UInt8 := iterN (fun _ p => timesL p 2) n 1
def rw4 (s : List UInt8) (w : List (List UInt8)) (i : Nat) : List UInt8 := if i % 8 = 0 then (rw3 s w i).set 0 (nth (rw3 s w i) 0 ^^^ rpw (i / 8 - 1)) else rw3 s w i
def xorT (u : List UInt8) (k : Nat) (t : List UInt8) : List UInt8 := t.set k (nth t k ^^^ nth u k)
def rw5 (s : List UInt8) (w : List (List UInt8)) (i : Nat) : List UInt8 := iterN (xorT (wd w (i - 8))) 4 (rw4 s w i)
def key8 (key : List UInt8) (n : Nat) : List (List UInt8) := (List.range n).map fun i => [nth key (4 * i), nth key (4 * i + 1), nth key (4 * i + 2), nth key (4 * i + 3)]
def rsch (s key : List UInt8) (n : Nat) : List (List UInt8) := iterN (fun n w => w ++ [rw5 s w (n + 8)]) n (key8 key 8)
theorem qDw (s key : List UInt8) (n : Nat) : rsch s key (n + 1) = rsch s key n ++ [rw5 s (rsch s key n) (n + 8)] := rfl
theorem key8_succ (key : List UInt8) (n : Nat) : key8 key (n + 1) = key8 key n ++ [[nth key (4 * n), nth key (4 * n + 1), nth key (4 * n + 2), nth key (4 * n + 3)]] := by unfold key8; rw [List.range_succ, List.map_append]; rfl
theorem key8_len (key : List UInt8) (n : Nat) : (key8 key n).length = n := by unfold key8; simp
theorem qEx (s key : List UInt8) : ∀ n, (rsch s key n).length = n + 8
 | 0 => key8_len key 8
 | n + 1 => by rw [qDw, List.length_append, qEx s key n, List.length_singleton]
theorem qFL (s : List UInt8) (n : Nat) (t : List UInt8) : (iterN (subT s) n t).length = t.length := qAb _ (subT_len s) n t
theorem qCZ (u : List UInt8) (n : Nat) (t : List UInt8) : (xorT u n t).length = t.length := by unfold xorT; rw [List.length_set]
theorem rw2_len {w : List (List UInt8)} {i : Nat} (h : (wd w (i - 1)).length = 4) : (rw2 w i).length = 4 := by
 unfold rw2; split
 ·rfl
 ·exact h
theorem rw3_len {s : List UInt8} {w : List (List UInt8)} {i : Nat} (h : (wd w (i - 1)).length = 4) : (rw3 s w i).length = 4 := by
 unfold rw3; split
 ·rw [qFL]; exact rw2_len h
 ·exact rw2_len h
theorem rw4_len {s : List UInt8} {w : List (List UInt8)} {i : Nat} (h : (wd w (i - 1)).length = 4) : (rw4 s w i).length = 4 := by
 unfold rw4; split
 ·rw [List.length_set]; exact rw3_len h
 ·exact rw3_len h
theorem rw5_len {s : List UInt8} {w : List (List UInt8)} {i : Nat} (h : (wd w (i - 1)).length = 4) : (rw5 s w i).length = 4 := by
 unfold rw5; rw [qAb _ (qCZ _)]; exact rw4_len h
theorem wd_len (s key : List UInt8) : ∀ (n i : Nat), i < n + 8 → (wd (rsch s key n) i).length = 4
 | 0, i, h => by
  unfold wd rsch key8
  rw [List.getD_eq_getElem?_getD, iterN, List.getElem?_map, List.getElem?_range yF]; rfl
 | n + 1, i, h => by
  rw [qDw]
  have hl := qEx s key n
  by_cases e : i < n + 8
  ·have := wd_len s key n i e
   unfold wd at this ⊢
   rwa [List.getD_eq_getElem?_getD, List.getElem?_append_left yF, ← List.getD_eq_getElem?_getD]
  ·unfold wd
   rw [List.getD_eq_getElem?_getD, List.getElem?_append_right yF, hl, show i - (n + 8) = 0 by omega]
   exact rw5_len (wd_len s key n (n + 8 - 1) yF)
theorem addT4_nth (t W : List UInt8) (i : Nat) (h8 : 8 ≤ i) (hi : i < 60) (hW : W.length = 240) : ∀ (n j : Nat), n ≤ 4 → nth (iterN (addT t i) n W) j = if 4 * i ≤ j ∧ j < 4 * i + n then nth W (j - 32) ^^^ nth t (j - 4 * i) else nth W j
 | 0, j, _ => by rw [if_neg yF]; rfl
 | n + 1, j, hn => by
  have ih := addT4_nth t W i h8 hi hW n
  have hl : (iterN (addT t i) n W).length = 240 := by rw [qAb _ (qDR t i)]; exact hW
  rw [qAY]
  unfold addT at ih hl ⊢
  rw [nth_set _ _ _ _ (by rw [hl]; omega)]
  by_cases e : 4 * i + n = j
  ·rw [if_pos e, if_pos yF, ih _ yF, if_neg yF]
   congr 2 <;> omega
  ·rw [if_neg e, ih _ yF]
   by_cases e2 : 4 * i ≤ j ∧ j < 4 * i + n
   ·rw [if_pos e2, if_pos yF]
   ·rw [if_neg e2, if_neg yF]
theorem xorT4_nth (u t : List UInt8) (ht : t.length = 4) : ∀ (n j : Nat), n ≤ 4 → nth (iterN (xorT u) n t) j = if j < n then nth t j ^^^ nth u j else nth t j
 | 0, j, _ => by rw [if_neg yF]; rfl
 | n + 1, j, hn => by
  have ih := xorT4_nth u t ht n
  have hl : (iterN (xorT u) n t).length = 4 := by rw [qAb _ (qCZ u)]; exact ht
  rw [qAY]
  unfold xorT at ih hl ⊢
  rw [nth_set _ _ _ _ (by rw [hl]; omega)]
  by_cases e : n = j
  ·subst e; rw [if_pos rfl, if_pos yF, ih _ yF, if_neg yF]
  ·rw [if_neg e, ih _ yF]
   by_cases e2 : j < n
   ·rw [if_pos e2, if_pos yF]
   ·rw [if_neg e2, if_neg yF]
theorem qCR (W : List UInt8) (o j : Nat) (h : j < 4) : nth ((W.drop o).take 4) j = nth W (o + j) := by
 unfold nth; rw [List.getD_eq_getElem?_getD, List.getElem?_take, if_pos h, List.getElem?_drop, ← List.getD_eq_getElem?_getD]
theorem schP (s key : List UInt8) : ∀ n, (schS s key n).2 = rpw ((n + 7) / 8)
 | 0 => rfl
 | n + 1 => by
  have ih := schP s key n
  show powI (schS s key n).2 (n + 8) = _
  rw [ih]
  unfold powI
  by_cases h : (n + 8) % 8 = 0
  ·rw [if_pos h, ← times_two, show (n + 1 + 7) / 8 = (n + 7) / 8 + 1 by omega]; rfl
  ·rw [if_neg h, show (n + 1 + 7) / 8 = (n + 7) / 8 by omega]
theorem rsch_sch (s key : List UInt8) (hk : key.length = 32) : ∀ (n : Nat), n ≤ 52 → ∀ i, i < n + 8 → wd (rsch s key n) i = ((schS s key n).1.drop (4 * i)).take 4
 | 0, _, i, hi => by
  have e : wd (rsch s key 0) i = [nth key (4 * i), nth key (4 * i + 1), nth key (4 * i + 2), nth key (4 * i + 3)] := by
   unfold wd rsch key8
   rw [List.getD_eq_getElem?_getD, iterN, List.getElem?_map, List.getElem?_range yF]; rfl
  rw [e]
  show _ = ((key ++ List.replicate 208 0).drop (4 * i)).take 4
  refine qEe (by rw [List.length_take, List.length_drop, List.length_append, hk, List.length_replicate]; simp only [List.length_cons, List.length_nil]; omega) fun j hj => ?_
  have hj4 : j < 4 := by simpa using hj
  rw [qCR _ _ _ hj4]
  have e2 : nth (key ++ List.replicate 208 0) (4 * i + j) = nth key (4 * i + j) := by
   unfold nth; rw [List.getD_eq_getElem?_getD, List.getElem?_append_left yF, ← List.getD_eq_getElem?_getD]
  rw [e2]
  match j, hj4 with
  | 0, _ => rfl
  | 1, _ => rfl
  | 2, _ => rfl
  | 3, _ => rfl
 | n + 1, hn, i, hi => by
  have ih := rsch_sch s key hk n yF
  have hl := qEx s key n
  have hp := schP s key n
  have hW := schS_len s key hk n
  have hwd := wd_len s key n
  rw [qDw]
  have es : schS s key (n + 1) = schW s n (schS s key n) := rfl
  rw [es]
  obtain ⟨w, ew⟩ : ∃ w, w = rsch s key n := ⟨_, rfl⟩
  obtain ⟨⟨W, p⟩, eW⟩ : ∃ W, W = schS s key n := ⟨_, rfl⟩
  rw [← ew, ← eW] at ih
  rw [← eW] at hp hW
  rw [← ew] at hl hwd
  rw [← ew, ← eW]
  simp only at ih hp hW
  unfold schW
  simp only
  have hA := fun (t : List UInt8) (j : Nat) => addT4_nth t W (n + 8) yF yF hW 4 j (Nat.le_refl _)
  have hAl : ∀ t : List UInt8, (iterN (addT t (n + 8)) 4 W).length = 240 := fun t => by rw [qAb _ (qDR t _)]; exact hW
  by_cases e : i < n + 8
  ·have h1 : wd (w ++ [rw5 s w (n + 8)]) i = wd w i := by
    unfold wd; rw [List.getD_eq_getElem?_getD, List.getElem?_append_left yF, ← List.getD_eq_getElem?_getD]
   rw [h1, ih i e]
   refine qEe (by simp only [List.length_take, List.length_drop, hAl, hW]) fun j hj => ?_
   have hj4 : j < 4 := by simp only [List.length_take] at hj; omega
   rw [qCR _ _ _ hj4, qCR _ _ _ hj4, hA, if_neg yF]
  ·obtain rfl : i = n + 8 := by omega
   have h1 : wd (w ++ [rw5 s w (n + 8)]) (n + 8) = rw5 s w (n + 8) := by
    unfold wd; rw [List.getD_eq_getElem?_getD, List.getElem?_append_right yF, hl, Nat.sub_self]; rfl
   have e2 : wd w (n + 8 - 1) = word1 W (n + 8) := ih _ yF
   have e3 : rw2 w (n + 8) = word2 W (n + 8) := by unfold rw2 word2; rw [e2]
   have e4 : rw3 s w (n + 8) = word3 s W (n + 8) := by
    unfold rw3 word3; rw [e3]
    by_cases q : (n + 8) % 4 = 0
    ·rw [if_pos yF, if_pos q]
    ·rw [if_neg yF, if_neg q]
   have e5 : rw4 s w (n + 8) = word4 s W p (n + 8) := by
    unfold rw4 word4; rw [e4]
    by_cases q : (n + 8) % 8 = 0
    ·rw [if_pos q, if_pos q, hp, show (n + 8) / 8 - 1 = (n + 7) / 8 by omega]
    ·rw [if_neg q, if_neg q]
   have hl4 : (word4 s W p (n + 8)).length = 4 := by rw [← e5]; exact rw4_len (hwd _ yF)
   rw [h1]
   unfold rw5
   rw [e5]
   refine qEe ?_ fun j hj => ?_
   ·rw [qAb _ (qCZ _), hl4, List.length_take, List.length_drop, hAl]; omega
   ·rw [qAb _ (qCZ _), hl4] at hj
    rw [xorT4_nth _ _ hl4 _ _ (Nat.le_refl _), if_pos hj, qCR _ _ _ hj, hA, if_pos yF, ih _ yF, qCR _ _ _ hj, UInt8.xor_comm]
    congr 2 <;> omega
/-! ### A block -/
def withL (b : List UInt8) (w : List (List UInt8)) (r n : Nat) : List UInt8 := (List.range n).map fun i => nth b i ^^^ nth (wd w (4 * r + i / 4)) (i % 4)
theorem withL_succ (b : List UInt8) (w : List (List UInt8)) (r n : Nat) : withL b w r (n + 1) = withL b w r n ++ [nth b n ^^^ nth (wd w (4 * r + n / 4)) (n % 4)] := by unfold withL; rw [List.range_succ, List.map_append]; rfl
theorem qDn (b : List UInt8) (w : List (List UInt8)) (r n : Nat) : (withL b w r n).length = n := by unfold withL; simp
theorem withL_nth (b : List UInt8) (w : List (List UInt8)) (r n j : Nat) (h : j < n) : nth (withL b w r n) j = nth b j ^^^ nth (wd w (4 * r + j / 4)) (j % 4) := by
 unfold withL nth; rw [List.getD_eq_getElem?_getD, List.getElem?_map, List.getElem?_range h]; rfl
theorem addL_nth (W b : List UInt8) (r j : Nat) (hb : b.length = 16) : nth (addL W b r) j = if j < 16 then nth b j ^^^ nth W (16 * r + j) else nth b j := by
 unfold addL
 rw [qFm (addB W r) 0 (fun i l => nth l i ^^^ nth W (16 * r + i)) (fun i l => by unfold addB; rw [Nat.zero_add]) (fun i l m _ h => by rw [Nat.zero_add] at h; rw [h]) b 16 yF]
 simp only [Nat.zero_le, true_and, Nat.zero_add, Nat.sub_zero]
def rsubC (s b : List UInt8) (row col : Nat) (t : List UInt8) : List UInt8 := t.set (4 * col + row) (nth s (nth b (4 * ((col + row) % 4) + row)).toNat)
def rsubR (s b : List UInt8) (row : Nat) (t : List UInt8) : List UInt8 := iterN (rsubC s b row) 4 t
def rsubL (s b : List UInt8) (n : Nat) : List UInt8 := iterN (rsubR s b) n (List.replicate 16 0)
def rmixC (t : List UInt8) (c : Nat) (m : List UInt8) : List UInt8 :=
 (((m.set c (timesL (nth t c) 2 ^^^ timesL (nth t (c + 1)) 3 ^^^ nth t (c + 2) ^^^ nth t (c + 3))).set (c + 1) (nth t c ^^^ timesL (nth t (c + 1)) 2 ^^^ timesL (nth t (c + 2)) 3 ^^^ nth t (c + 3))).set (c + 2) (nth t c ^^^ nth t (c + 1) ^^^ timesL (nth t (c + 2)) 2 ^^^ timesL (nth t (c + 3)) 3)).set (c + 3) (timesL (nth t c) 3 ^^^ nth t (c + 1) ^^^ nth t (c + 2) ^^^ timesL (nth t (c + 3)) 2)
def rmixL (t : List UInt8) (n : Nat) : List UInt8 := iterN (fun i m => rmixC t (4 * i) m) n (List.replicate 16 0)
def roneS (w : List (List UInt8)) (s : List UInt8) (b : List UInt8) (n : Nat) : List UInt8 :=
 iterN (fun n b => withL (if n + 1 < 14 then rmixL (rsubL s b 4) 4 else rsubL s b 4) w (n + 1) 16) n (withL b w 0 16)
theorem qGH (w : List (List UInt8)) (s b : List UInt8) : roneS w s b 0 = withL b w 0 16 := rfl
theorem qEY (w : List (List UInt8)) (s b : List UInt8) (n : Nat) : roneS w s b (n + 1) = withL (if n + 1 < 14 then rmixL (rsubL s (roneS w s b n) 4) 4 else rsubL s (roneS w s b n) 4) w (n + 1) 16 := rfl
theorem iterN_zero {α : Type} (f : Nat → α → α) (s : α) : iterN f 0 s = s := rfl
def roneL (w : List (List UInt8)) (s b : List UInt8) : List UInt8 := roneS w s b 14
theorem rsubC_len (s b : List UInt8) (row col : Nat) (t : List UInt8) : (rsubC s b row col t).length = t.length := by unfold rsubC; rw [List.length_set]
theorem rsubR_len (s b : List UInt8) (row : Nat) (t : List UInt8) : (rsubR s b row t).length = t.length := qAb _ (rsubC_len s b row) _ _
theorem rsubL_len (s b : List UInt8) (n : Nat) : (rsubL s b n).length = 16 := by unfold rsubL; rw [qAb _ (rsubR_len s b)]; exact List.length_replicate
theorem rmixC_len (t : List UInt8) (c : Nat) (m : List UInt8) : (rmixC t c m).length = m.length := by unfold rmixC; simp only [List.length_set]
theorem rmixL_len (t : List UInt8) (n : Nat) : (rmixL t n).length = 16 := by unfold rmixL; rw [qAb _ (fun n m => rmixC_len t (4 * n) m)]; exact List.length_replicate
theorem qFT (w : List (List UInt8)) (s b : List UInt8) : ∀ n, (roneS w s b n).length = 16
 | 0 => by rw [qGH]; exact qDn _ _ _ _
 | n + 1 => by rw [qEY]; exact qDn _ _ _ _
theorem list16 {l : List UInt8} (h : l.length = 16) : ∃ a0 a1 a2 a3 a4 a5 a6 a7 a8 a9 a10 a11 a12 a13 a14 a15, l = [a0, a1, a2, a3, a4, a5, a6, a7, a8, a9, a10, a11, a12, a13, a14, a15] := by
 match l, h with
 | [a0, a1, a2, a3, a4, a5, a6, a7, a8, a9, a10, a11, a12, a13, a14, a15], _ => exact ⟨a0, a1, a2, a3, a4, a5, a6, a7, a8, a9, a10, a11, a12, a13, a14, a15, rfl⟩
theorem rsub_sub (s b : List UInt8) (hb : b.length = 16) : rsubL s b 4 = subL s b := by
 obtain ⟨a0, a1, a2, a3, a4, a5, a6, a7, a8, a9, a10, a11, a12, a13, a14, a15, rfl⟩ := list16 hb
 kernel_rfl
theorem xor_r1 (x y z v : UInt8) : x ^^^ tw y ^^^ (tw z ^^^ z) ^^^ v = tw y ^^^ tw z ^^^ z ^^^ v ^^^ x := by
 simp only [UInt8.xor_assoc]; rw [UInt8.xor_comm x]; simp only [UInt8.xor_assoc]
theorem xor_r2 (x y z v : UInt8) : x ^^^ y ^^^ tw z ^^^ (tw v ^^^ v) = tw z ^^^ tw v ^^^ v ^^^ x ^^^ y := by
 rw [UInt8.xor_assoc (x ^^^ y), UInt8.xor_comm (x ^^^ y)]; simp only [UInt8.xor_assoc]
theorem xor_r3 (x y z v : UInt8) : tw x ^^^ x ^^^ y ^^^ z ^^^ tw v = tw v ^^^ tw x ^^^ x ^^^ y ^^^ z := by
 rw [UInt8.xor_comm _ (tw v)]; simp only [UInt8.xor_assoc]
theorem xor_r0 (x y z v : UInt8) : tw x ^^^ (tw y ^^^ y) ^^^ z ^^^ v = tw x ^^^ tw y ^^^ y ^^^ z ^^^ v := by simp only [UInt8.xor_assoc]
theorem rmix_mix (t : List UInt8) (ht : t.length = 16) : rmixL t 4 = mixL t := by
 obtain ⟨a0, a1, a2, a3, a4, a5, a6, a7, a8, a9, a10, a11, a12, a13, a14, a15, rfl⟩ := list16 ht
 unfold rmixL rmixC
 simp only [times_two, times_three, xor_r0, xor_r1, xor_r2, xor_r3]
 kernel_rfl
theorem with_add (w : List (List UInt8)) (W b : List UInt8) (r : Nat) (hb : b.length = 16) (hw : ∀ i, i < 60 → wd w i = (W.drop (4 * i)).take 4) (hr : r ≤ 14) : withL b w r 16 = addL W b r := by
 refine qEe (by rw [qDn, qDS, hb]) fun j hj => ?_
 rw [qDn] at hj
 rw [withL_nth _ _ _ _ _ hj, addL_nth _ _ _ _ hb, if_pos hj, hw _ yF, qCR _ _ _ yF, show 4 * (4 * r + j / 4) + j % 4 = 16 * r + j by omega]
theorem rone_block (w : List (List UInt8)) (s W b : List UInt8) (hb : b.length = 16) (hw : ∀ i, i < 60 → wd w i = (W.drop (4 * i)).take 4) : roneL w s b = blockL s W b := by
 have key : ∀ n, n ≤ 14 → roneS w s b n = iterN (roundL s W) n (addL W b 0) := by
  intro n
  induction n with
  | zero => intro _; rw [qGH, iterN_zero]; exact with_add w W b 0 hb hw yF
  | succ n ih =>
   intro hn
   rw [qAY, ← ih yF]
   have h16 := qFT w s b n
   rw [qEY]
   obtain ⟨q, eq⟩ : ∃ q, q = roneS w s b n := ⟨_, rfl⟩
   rw [← eq] at h16 ⊢
   unfold roundL
   rw [rsub_sub s q h16, rmix_mix _ (qEt s q)]
   refine with_add w W _ (n + 1) ?_ hw yF
   split
   ·exact mixL_len _
   ·exact qEt _ _
 exact key 14 (Nat.le_refl _)
/-! ### A stream -/
def cntL (n : Nat) : List UInt8 := [UInt8.ofNat (n / 16777216), UInt8.ofNat (n / 65536), UInt8.ofNat (n / 256), UInt8.ofNat n]
def rstrB (b text : List UInt8) (at' m : Nat) : List UInt8 := (List.range m).map fun i => nth text (at' + i) ^^^ nth b i
theorem rstrB_succ (b text : List UInt8) (at' m : Nat) : rstrB b text at' (m + 1) = rstrB b text at' m ++ [nth text (at' + m) ^^^ nth b m] := by unfold rstrB; rw [List.range_succ, List.map_append]; rfl
theorem qDv (b text : List UInt8) (at' m : Nat) : (rstrB b text at' m).length = m := by unfold rstrB; simp
def rstrS (w : List (List UInt8)) (s nonce text : List UInt8) (n : Nat) : List UInt8 := iterN (fun n out => out ++ rstrB (roneL w s (nonce ++ cntL n)) text (16 * n) (min 16 (text.length - 16 * n))) n []
theorem qEX (w : List (List UInt8)) (s nonce text : List UInt8) (n : Nat) : rstrS w s nonce text (n + 1) = rstrS w s nonce text n ++ rstrB (roneL w s (nonce ++ cntL n)) text (16 * n) (min 16 (text.length - 16 * n)) := rfl
theorem qFR (w : List (List UInt8)) (s nonce text : List UInt8) : ∀ n, (rstrS w s nonce text n).length = min (16 * n) text.length
 | 0 => by simp [rstrS, iterN]
 | n + 1 => by rw [qEX, List.length_append, qFR w s nonce text n, qDv]; omega
theorem cnt_big (n : Nat) (h : n < 4294967296) : cntL n = bigB (UInt64.ofNat n) 4 := by
 have e : ∀ m k : Nat, m < 64 → 2 ^ m = k → (UInt64.ofNat n >>> UInt64.ofNat m).toUInt8 = UInt8.ofNat (n / k) := fun m k hm hk => by
  apply UInt8.toNat_inj.1
  rw [UInt64.toNat_toUInt8, UInt64.toNat_shiftRight, UInt64.toNat_ofNat', UInt64.toNat_ofNat', UInt8.toNat_ofNat', Nat.shiftRight_eq_div_pow, Nat.mod_eq_of_lt (by omega : n < 2 ^ 64), Nat.mod_eq_of_lt (by omega : m < 2 ^ 64), Nat.mod_eq_of_lt hm, hk]
 have e0 := e 0 1 yF rfl
 have e1 := e 8 256 yF rfl
 have e2 := e 16 65536 yF rfl
 have e3 := e 24 16777216 yF rfl
 rw [Nat.div_one] at e0
 unfold cntL
 rw [← e0, ← e1, ← e2, ← e3]
 rfl
theorem qFQ (w : List (List UInt8)) (key nonce text : List UInt8) (hn : nonce.length = 12) (ht : text.length ≤ 1000000) (hw : ∀ i, i < 60 → wd w i = ((schL boxL key).drop (4 * i)).take 4) : ∀ n, 16 * n < text.length + 16 → rstrS w boxL nonce text n = (streamL key nonce text).take (16 * n)
 | 0, _ => rfl
 | n + 1, h => by
  have ih := qFQ w key nonce text hn ht hw n yF
  have hl := qFR w boxL nonce text n
  rw [qEX, ih, rone_block w boxL (schL boxL key) _ (by rw [List.length_append, hn]; rfl) hw, cnt_big n yF, show 16 * (n + 1) = 16 * n + 16 by omega, List.take_add]
  congr 1
  have hsl := qAy key nonce text
  refine qEe (by rw [qDv, List.length_take, List.length_drop, hsl]) fun j hj => ?_
  rw [qDv] at hj
  have e1 : nth ((List.drop (16 * n) (streamL key nonce text)).take 16) j = nth (streamL key nonce text) (16 * n + j) := by
   unfold nth; rw [List.getD_eq_getElem?_getD, List.getElem?_take, if_pos yF, List.getElem?_drop, ← List.getD_eq_getElem?_getD]
  rw [e1, qDe _ _ _ _ yF, show (16 * n + j) / 16 = n by omega, show (16 * n + j) % 16 = j by omega]
  unfold rstrB nth
  rw [List.getD_eq_getElem?_getD, List.getElem?_map, List.getElem?_range hj]; rfl
theorem rstr_all (key nonce text : List UInt8) (hk : key.length = 32) (hn : nonce.length = 12) (ht : text.length ≤ 1000000) (n : Nat) (h1 : text.length ≤ 16 * n) (h2 : 16 * n < text.length + 16) : rstrS (rsch boxL key 52) boxL nonce text n = streamL key nonce text := by
 rw [qFQ _ key nonce text hn ht (fun i hi => rsch_sch boxL key hk 52 (Nat.le_refl _) i yF) n h2, List.take_of_length_le (by rw [qAy]; omega)]
end TL
end Go

namespace Go
namespace TL
theorem snocV (l : List UInt8) (b : UInt8) : bs l ++ [.int .u8 (I8 b)] = bs (l ++ [b]) := by simp [bs, vb]
theorem refA_succ (n : Nat) : refA (n + 1) = refA n ++ [refS (UInt8.ofNat n)] := by unfold refA; rw [List.range_succ, List.map_append]; rfl
theorem timesS_succ (a b : UInt8) (n : Nat) : timesS a b (n + 1) = tmStep n (timesS a b n) := rfl
theorem half8 (x : UInt8) : w8 ((I8 x).tdiv 2) = x / 2 := by
 rw [I8_eq, show ((x.toNat : Int).tdiv 2) = ((x.toNat / 2 : Nat) : Int) from rfl, qEj]
 apply UInt8.toNat_inj.1
 have := x.toNat_lt
 rw [UInt8.toNat_ofNat', UInt8.toNat_div]
 show x.toNat / 2 % 2 ^ 8 = x.toNat / 2
 omega
theorem mirL_succ (b : UInt8) (n : Nat) : mirL b (n + 1) = if timesL b (UInt8.ofNat (n + 1)) = 1 then UInt8.ofNat (n + 1) else mirL b n := rfl
end TL
end Go
namespace Go.Proofs.YtidadhbaomieiaaGreat
open Go.RowKit Go.TL
theorem times_c (a b : UInt8) (w : World) :
  Calls Tryz.prog 174 #[.int .u8 (I8 a), .int .u8 (I8 b)] w fun e w' => e = .returned (.int .u8 (I8 (timesL a b))) ∧ w = w' := by
 go_enter Tryz.func174, Tryz.ntmps174
 go_wp2_with fail
 go_loopw [0, 1, 5, 6] (fun av bv nv iv wr => ∃ k : Nat, k ≤ 8 ∧ iv = .int .i64 k ∧ av = .int .u8 (I8 (timesS a b k).a) ∧ bv = .int .u8 (I8 (timesS a b k).b) ∧ nv = .int .u8 (I8 (timesS a b k).n) ∧ w = wr) (fun _ _ _ iv _ => 8 - (intOf iv).toNat)
 case atStart => exact ⟨0, by omega, rfl, rfl, rfl, rfl, rfl⟩
 case round =>
  obtain ⟨k, hk, rfl, rfl, rfl, rfl, rfl⟩ := hrel
  by_cases hlt : k < 8
  ·have E := timesS_succ a b k
   obtain ⟨x, ex⟩ : ∃ x, x = timesS a b k := ⟨_, rfl⟩
   rw [← ex] at E
   rw [← ex]
   unfold tmStep at E
   clear ex
   by_cases h1 : x.b &&& 1 = 1
   ·rw [if_pos h1] at E
    have hc : (I8 (x.b &&& 1) == 1) = true := by rw [h1]; decide
    by_cases h2 : 128 ≤ x.a
    ·rw [if_pos h2] at E
     replace E := Lib.hid fun _ : Unit => E
     have hd : 128 ≤ I8 x.a := by rw [I8_eq]; have := UInt8.le_iff_toNat_le.1 h2; simp at this; omega
     clear h1 h2
     go_wp2_with fail
     go_roundw
     case rel => exact ⟨k + 1, by omega, by go_num, by rw [E.out ()], by rw [E.out (), half8], by rw [E.out ()], trivial⟩
     case measure => simp [intOf]; omega
    ·rw [if_neg h2] at E
     replace E := Lib.hid fun _ : Unit => E
     have hd : I8 x.a < 128 := by rw [I8_eq]; have : ¬ 128 ≤ x.a.toNat := fun h => h2 (UInt8.le_iff_toNat_le.2 yE1); omega
     clear h1 h2
     go_wp2_with fail
     go_roundw
     case rel => exact ⟨k + 1, by omega, by go_num, by rw [E.out ()], by rw [E.out (), half8], by rw [E.out ()], trivial⟩
     case measure => simp [intOf]; omega
   ·rw [if_neg h1] at E
    have hc : (I8 (x.b &&& 1) == 1) = false := by
     rw [beq_eq_false_iff_ne]; intro h
     exact h1 (I8_inj.1 (by rw [h]; decide))
    by_cases h2 : 128 ≤ x.a
    ·rw [if_pos h2] at E
     replace E := Lib.hid fun _ : Unit => E
     have hd : 128 ≤ I8 x.a := by rw [I8_eq]; have := UInt8.le_iff_toNat_le.1 h2; simp at this; omega
     clear h1 h2
     go_wp2_with fail
     go_roundw
     case rel => exact ⟨k + 1, by omega, by go_num, by rw [E.out ()], by rw [E.out (), half8], by rw [E.out ()], trivial⟩
     case measure => simp [intOf]; omega
    ·rw [if_neg h2] at E
     replace E := Lib.hid fun _ : Unit => E
     have hd : I8 x.a < 128 := by rw [I8_eq]; have : ¬ 128 ≤ x.a.toNat := fun h => h2 (UInt8.le_iff_toNat_le.2 yE1); omega
     clear h1 h2
     go_wp2_with fail
     go_roundw
     case rel => exact ⟨k + 1, by omega, by go_num, by rw [E.out ()], by rw [E.out (), half8], by rw [E.out ()], trivial⟩
     case measure => simp [intOf]; omega
  ·obtain rfl : k = 8 := by omega
   have E := Lib.hid fun _ : Unit => show timesL a b = (timesS a b 8).n from rfl
   obtain ⟨x, ex⟩ : ∃ x, x = timesS a b 8 := ⟨_, rfl⟩
   rw [← ex] at E
   rw [← ex]
   clear ex
   go_wp2_with fail
   go_ret
   exact ⟨by rw [E.out ()]; rfl, rfl⟩
theorem left_c (b n : UInt8) (k : Int) (w : World) (hk : (k = 1 ∧ n = 1) ∨ (k = 2 ∧ n = 2) ∨ (k = 3 ∧ n = 3) ∨ (k = 4 ∧ n = 4)) :
  Calls Tryz.prog 190 #[.int .u8 (I8 b), .int .u64 k] w fun e w' => e = .returned (.int .u8 (I8 (rl b n))) ∧ w = w' := by
 have k7 : I64 7 = 7 := by decide
 have k6 : I64 6 = 6 := by decide
 have k5 : I64 5 = 5 := by decide
 have k4 : I64 4 = 4 := by decide
 rcases hk with ⟨rfl, rfl⟩ | ⟨rfl, rfl⟩ | ⟨rfl, rfl⟩ | ⟨rfl, rfl⟩
 all_goals
  go_enter Tryz.func190, Tryz.ntmps190
  go_wp2
  go_ret
  exact ⟨rfl, rfl⟩
theorem refS_c (b : UInt8) (w : World) :
  Calls Tryz.prog 173 #[.int .u8 (I8 b)] w fun e w' => e = .returned (.int .u8 (I8 (refS b))) ∧ w = w' := by
 go_enter Tryz.func173, Tryz.ntmps173
 go_wp2_with fail
 go_loopw [3, 4] (fun mv iv wr => ∃ k : Nat, k ≤ 255 ∧ iv = .int .i64 ((k : Int) + 1) ∧ mv = .int .u8 (I8 (mirL b k)) ∧ w = wr) (fun _ iv _ => 256 - (intOf iv).toNat)
 case atStart => exact ⟨0, by omega, rfl, rfl, rfl⟩
 case round =>
  obtain ⟨k, hk, rfl, rfl, rfl⟩ := hrel
  by_cases hlt : k < 255
  ·have E := mirL_succ b k
   have ew : w8 ((k : Int) + 1) = UInt8.ofNat (k + 1) := qEj (k + 1)
   have TC := fun w => times_c b (UInt8.ofNat (k + 1)) w
   obtain ⟨m, em⟩ : ∃ m, m = mirL b k := ⟨_, rfl⟩
   obtain ⟨t, et⟩ : ∃ t, t = timesL b (UInt8.ofNat (k + 1)) := ⟨_, rfl⟩
   obtain ⟨j, ej⟩ : ∃ j, j = UInt8.ofNat (k + 1) := ⟨_, rfl⟩
   rw [← em, ← et, ← ej] at E
   rw [← em]
   rw [← et, ← ej] at TC
   rw [← ej] at ew
   clear em et ej
   by_cases h1 : t = 1
   ·rw [if_pos h1] at E
    have hc : (I8 t == 1) = true := by rw [h1]; decide
    replace E := Lib.hid fun _ : Unit => E
    clear h1
    go_wp2_with ((go_at_call 174; (refine (TC _).mono ?_; rintro e w1 ⟨rfl, rfl⟩)))
    go_roundw
    case rel => exact ⟨k + 1, by omega, by go_num, by rw [E.out ()], trivial⟩
    case measure => simp [intOf]; omega
   ·rw [if_neg h1] at E
    have hc : (I8 t == 1) = false := by
     rw [beq_eq_false_iff_ne]; intro h
     exact h1 (I8_inj.1 (by rw [h]; decide))
    replace E := Lib.hid fun _ : Unit => E
    clear h1
    go_wp2_with ((go_at_call 174; (refine (TC _).mono ?_; rintro e w1 ⟨rfl, rfl⟩)))
    go_roundw
    case rel => exact ⟨k + 1, by omega, by go_num, by rw [E.out ()], trivial⟩
    case measure => simp [intOf]; omega
  ·obtain rfl : k = 255 := by omega
   have E := Lib.hid fun _ : Unit => show refS b = affL (mirL b 255) from rfl
   obtain ⟨m, em⟩ : ∃ m, m = mirL b 255 := ⟨_, rfl⟩
   rw [← em] at E
   rw [← em]
   clear em
   go_wp2_with ((go_at_call 190; ((first | (with_reducible refine (left_c _ 1 1 _ yN).mono ?_) | (with_reducible refine (left_c _ 2 2 _ yN).mono ?_) | (with_reducible refine (left_c _ 3 3 _ yN).mono ?_) | (with_reducible refine (left_c _ 4 4 _ yN).mono ?_)); rintro e w1 ⟨rfl, rfl⟩)))
   go_ret
   exact ⟨by rw [E.out ()]; rfl, rfl⟩
theorem refA_c (w : World) :
  Calls Tryz.prog 145 #[] w fun e w' => ∃ p c, e = .returned (.slice p 256 c) ∧ Mem [] w w' [.sl 1 (.slice p 256 c) 256 (bs boxL)] := by
 have M := (Mem.start [] w).nil 1
 go_enter Tryz.func145, Tryz.ntmps145
 go_wp2_with fail
 go_loopw [1, 2] (fun lv iv wr => ∃ (k : Nat) (q : Option Addr) (c : Nat), k ≤ 256 ∧ iv = .int .i64 k ∧ lv = .slice q k c ∧ Mem [] w wr [.sl 1 (.slice q k c) k (bs (refA k))]) (fun _ iv _ => 256 - (intOf iv).toNat)
 case atStart => exact ⟨0, none, 0, by omega, rfl, rfl, M⟩
 case round =>
  clear M
  obtain ⟨k, q, c, hk, rfl, rfl, M⟩ := hrel
  by_cases hlt : k < 256
  ·have E := refA_succ k
   have SC := fun w => refS_c (UInt8.ofNat k) w
   have ew : w8 (k : Int) = UInt8.ofNat k := qEj k
   obtain ⟨x, ex⟩ : ∃ x, x = refS (UInt8.ofNat k) := ⟨_, rfl⟩
   obtain ⟨j, ej⟩ : ∃ j, j = UInt8.ofNat k := ⟨_, rfl⟩
   obtain ⟨l, el⟩ : ∃ l, l = refA k := ⟨_, rfl⟩
   rw [← ex] at SC E
   rw [← ej] at SC ew
   rw [← el] at M E
   have E := Lib.hid fun _ : Unit => E
   clear ex ej el
   go_wp2_with ((first | (go_at_call 173; (refine (SC _).mono ?_; rintro e w1 ⟨rfl, rfl⟩)) | ((with_reducible show wpList _ _ _ (Oper.mk _ (Op.buildSlice _ 1 _) _ _ _ _ :: _) _ _); (refine qAV M bytesT yN _ rfl rfl yE _ rfl rfl ?_; clear M; intro g w1 M)) | ((with_reducible refine tApp ?_); (refine qAg M 0 bytesT _ _ rfl rfl rfl rfl rfl rfl yJ yN yS yW ?_; clear M; intro q cap w1 M; (try simp only [setC] at M))) | ((with_reducible refine tM rfl ?_); refine mB ?_; try (clear M; (first | intro g w1 M | intro w1 M); try simp only [setC] at M)) | ((with_reducible refine tGuard ?_); refine gdC ?_ ?_ <;> (intro hgd; rw [hgd]; try (exfalso; simp at hgd; omega)))) <;> (try conv => arg 5; simp only [Act.put, List.setIfInBounds_toArray, setC]))
   go_roundw
   case rel => exact ⟨k + 1, q, _, by omega, by go_num, rfl, by rw [E.out (), ← snocV]; exact M⟩
   case measure => simp [intOf]; omega
  ·obtain rfl : k = 256 := by omega
   rw [refA_box] at M
   go_wp2_with fail
   go_ret
   exact ⟨q, c, rfl, M⟩
end Go.Proofs.YtidadhbaomieiaaGreat

namespace Go
namespace TL
open Go.RowKit
def InnerW (w : World) (vs : List Value) (ls : List (List UInt8)) : Prop := vs.length = ls.length ∧ ∀ (i : Nat) (v : Value) (l : List UInt8), vs[i]? = some v → ls[i]? = some l → SeesB w v l
def fpW (vs : List Value) : List Nat := vs.flatMap fun v => v.ownBlock.toList
def rowsC (vs : List Value) (ls : List (List UInt8)) : Chunk := .obj (fpW vs) (fun w => InnerW w vs ls)
theorem qBv {w w' : World} {v : Value} {l : List UInt8} (S : SeesB w v l) (hs : w.heap.size ≤ w'.heap.size) (hb : ∀ k, v.ownBlock = some k → k < w.heap.size → w'.heap[k]? = w.heap[k]?) : SeesB w' v l := by
 refine ⟨S.1, S.2.imp id ?_⟩
 rintro ⟨g, o, cap, rfl, hlt, hn, hc, hr⟩
 exact ⟨g, o, cap, rfl, Nat.lt_of_lt_of_le hlt hs, hn, hc, rangeAt_of_block hr (hb g rfl hlt)⟩
theorem qBw {w : World} {v : Value} {l : List UInt8} (S : SeesB w v l) (h : 0 < l.length) : ∃ g so c, v = .slice (some ⟨g, so, none⟩) l.length c := by
 rcases S.2 with ⟨_, h0⟩ | ⟨g, so, c, hv, _⟩
 ·omega
 ·exact ⟨g, so, c, hv⟩
theorem mem_fpW {vs : List Value} {i : Nat} {v : Value} {k : Nat} (hi : vs[i]? = some v) (hk : v.ownBlock = some k) : k ∈ fpW vs := by
 unfold fpW
 exact List.mem_flatMap.2 ⟨v, List.mem_of_getElem? hi, by rw [hk]; simp⟩
theorem fpW_snoc (vs : List Value) (v : Value) : fpW (vs ++ [v]) = fpW vs ++ v.ownBlock.toList := by unfold fpW; simp
theorem rows_ok {w : World} {vs : List Value} {ls : List (List UInt8)} (h : InnerW w vs ls) (hlt : ∀ k ∈ fpW vs, k < w.heap.size) : (rowsC vs ls).ok w :=
 ⟨hlt, h, fun _ hs hb => ⟨h.1, fun i v l hv hl => qBv (h.2 i v l hv hl) hs fun k hk _ => hb k (mem_fpW hv hk)⟩⟩
theorem inner_snoc {w : World} {vs : List Value} {ls : List (List UInt8)} (h : InnerW w vs ls) {v : Value} {l : List UInt8} (S : SeesB w v l) : InnerW w (vs ++ [v]) (ls ++ [l]) := by
 refine ⟨by simp [h.1], fun i u m hu hm => ?_⟩
 by_cases e : i < vs.length
 ·rw [List.getElem?_append_left e] at hu
  rw [List.getElem?_append_left (by rw [← h.1]; exact e)] at hm
  exact h.2 i u m hu hm
 ·rw [List.getElem?_append_right yF] at hu
  rw [List.getElem?_append_right (by rw [← h.1]; omega), ← h.1] at hm
  obtain ⟨j, ej⟩ : ∃ j, j = i - vs.length := ⟨_, rfl⟩
  rw [← ej] at hu hm
  cases j with
  | zero => simp at hu hm; subst hu; subst hm; exact S
  | succ j => simp at hu
theorem Mem.rows0 {F : List Nat} {w0 w : World} {L : List Chunk} (M : Mem F w0 w L) : Mem F w0 w (rowsC [] [] :: L) :=
 M.add _ (Kept.refl _ _) (rows_ok ⟨rfl, fun i v l h => by simp at h⟩ (by simp [fpW])) (by simp [rowsC, Chunk.fp, fpW])
theorem Mem.gather {F : List Nat} {w0 w : World} {c o d e : Chunk} {L : List Chunk} (M : Mem F w0 w (c :: o :: d :: L)) (hok : e.ok w) (hfp : ∀ k ∈ e.fp, k ∈ c.fp ∨ k ∈ d.fp) : Mem F w0 w (o :: e :: L) := by
 have key : ∀ (i : Nat) (x : Chunk), (o :: e :: L)[i]? = some x → (i = 1 ∧ x = e) ∨ (i ≠ 1 ∧ (c :: o :: d :: L)[i + 1]? = some x) := by
  intro i x hx
  match i with
  | 0 => exact .inr ⟨by omega, by simpa using hx⟩
  | 1 => exact .inl ⟨rfl, by simp at hx; exact hx.symm⟩
  | i + 2 => exact .inr ⟨by omega, by simpa using hx⟩
 have me : ∀ k ∈ e.fp, ∃ (j : Nat) (y : Chunk), (j = 0 ∨ j = 2) ∧ (c :: o :: d :: L)[j]? = some y ∧ k ∈ y.fp := fun k hk => by
  rcases hfp k hk with h | h
  ·exact ⟨0, c, .inl rfl, rfl, h⟩
  ·exact ⟨2, d, .inr rfl, rfl, h⟩
 refine ⟨M.kept, fun i x hx => ?_, fun i x hx k hk => ?_, fun i j x y hij hi hj k hk hk2 => ?_⟩
 ·rcases key i x hx with ⟨_, rfl⟩ | ⟨_, h⟩
  ·exact hok
  ·exact M.ok _ x h
 ·rcases key i x hx with ⟨_, rfl⟩ | ⟨_, h⟩
  ·obtain ⟨j, y, _, hy, hky⟩ := me k hk
   exact M.own j y hy k hky
  ·exact M.own _ x h k hk
 ·rcases key i x hi with ⟨e1, rfl⟩ | ⟨n1, h1⟩ <;> rcases key j y hj with ⟨e2, rfl⟩ | ⟨n2, h2⟩
  ·omega
  ·obtain ⟨m, z, hm, hz, hkz⟩ := me k hk
   exact M.nd m (j + 1) z y yF hz h2 k hkz hk2
  ·obtain ⟨m, z, hm, hz, hkz⟩ := me k hk2
   exact M.nd (i + 1) m x z yF h1 hz k hk hkz
  ·exact M.nd _ _ x y yF h1 h2 k hk hk2
theorem Mem.rowIn {F : List Nat} {w0 w : World} {c o : Chunk} {vs : List Value} {ls : List (List UInt8)} {L : List Chunk} (M : Mem F w0 w (c :: o :: rowsC vs ls :: L)) {v : Value} {l : List UInt8} (S : SeesB w v l) (hv : ∀ k, v.ownBlock = some k → k ∈ c.fp) : Mem F w0 w (o :: rowsC (vs ++ [v]) (ls ++ [l]) :: L) := by
 have key : ∀ k ∈ fpW (vs ++ [v]), k ∈ c.fp ∨ k ∈ fpW vs := fun k hk => by
  rw [fpW_snoc, List.mem_append] at hk
  rcases hk with h | h
  ·exact .inr h
  ·exact .inl (hv k yE1)
 exact M.gather (rows_ok (inner_snoc (M.ok 2 _ rfl).2.1 S) fun k hk => (key k hk).elim ((M.ok 0 _ rfl).lt k) ((M.ok 2 _ rfl).1 k)) key
theorem qBt {w : World} {size n m cap : Nat} {p : Option Addr} {xs : List Value} (h : (Chunk.sl size (.slice p m cap) n xs).ok w) (hn : 0 < n) : ∃ g so, p = some ⟨g, so, none⟩ := by
 rcases h.2 with ⟨_, h0⟩ | ⟨g, so, c, hv, _⟩
 ·omega
 ·injection hv with h1 _ _; exact ⟨g, so, h1⟩
section
variable {P : Program} {ops : Array Oper} {rest : List Oper} {o : Oper} {a : Act} {w w0 : World} {Q : Exit → Act → World → Prop} {F : List Nat} {L : List Chunk}
theorem qCq {g so n m c : Nat} {vs : List Value} (S : Sees w 1 (.slice (some ⟨g, so, none⟩) m c) n vs) (t : TypeId) (x : Operand) (ho : o.op = .load t x) {off : Nat} (hx : a.eval x = .pointer (some ⟨g, off, none⟩)) (hw : Region.wanted o (yielded ops a.tmps) = true)
  (ht : scalarT P t = true) (k : Nat) (hoff : off = so + k) {v : Value} (hv : vs[k]? = some v) (h : wpList P ops Q rest (a.put o.dst v) w) : wpList P ops Q (o :: rest) a w :=
 wpW hw fun _ hK => by
  subst hoff
  have hc : w.cell? ⟨g, so + k, none⟩ = some v := by
   rcases S.2 with ⟨_, h0⟩ | ⟨g', o', c', hv', _, _, _, hr⟩
   ·have hl := S.1
    rw [h0, Nat.zero_mul] at hl
    rw [List.eq_nil_of_length_eq_zero hl] at hv; simp at hv
   ·injection hv' with h1 _ _; injection h1 with h1; injection h1 with h1 h2; subst h1; subst h2; exact hr k v hv
  unfold Oper.wp execOp
  simp only [ho, hx, Instr.loadAt, Instr.sureAddr, Sem.run_bind, Sem.run_pure, Result.andThen_ok, qAX ht w g _ v hc]
  exact hK _ _ h
theorem qCr {g so m c : Nat} {l : List UInt8} (S : SeesB w (.slice (some ⟨g, so, none⟩) m c) l) (t : TypeId) (x : Operand) (ho : o.op = .load t x) {off : Nat} (hx : a.eval x = .pointer (some ⟨g, off, none⟩)) (hw : Region.wanted o (yielded ops a.tmps) = true)
  (ht : scalarT P t = true) (k : Nat) (hoff : off = so + k) (hlt : k < l.length) (h : wpList P ops Q rest (a.put o.dst (.int .u8 (I8 (l.getD k 0)))) w) : wpList P ops Q (o :: rest) a w :=
 qCq S t x ho hx hw ht k hoff (getD_some hlt) h
theorem w_build4 (M : Mem F w0 w L) {t e : TypeId} {bytes : Nat} (T : SliceT P t e 1 bytes) (x y z u : Operand) (ho : o.op = .buildSlice t 4 #[(0, x), (1, y), (2, z), (3, u)]) (hw : Region.wanted o (yielded ops a.tmps) = true) {b0 b1 b2 b3 : UInt8} (hx : a.eval x = .int .u8 (I8 b0)) (hy : a.eval y = .int .u8 (I8 b1)) (hz : a.eval z = .int .u8 (I8 b2)) (hu : a.eval u = .int .u8 (I8 b3))
  (h : ∀ (g : Nat) (w' : World), Mem F w0 w' (.sl 1 (.slice (some ⟨g, 0, none⟩) 4 4) 4 (bs [b0, b1, b2, b3]) :: L) → wpList P ops Q rest (a.put o.dst (.slice (some ⟨g, 0, none⟩) 4 4)) w') : wpList P ops Q (o :: rest) a w := by
 have T' := T
 obtain ⟨ht, ⟨i, z', hi, hz', hsize, hby, hzs⟩, hsz⟩ := T'
 refine qCI M T 4 _ ho hw ⟨by omega, by omega⟩ z' (by simp [hi, hz']) (bs [b0, b1, b2, b3]) ?_ fun g w' M' => h g w' ?_
 ·have r4 : Array.range (4 * 1) = #[0, 1, 2, 3] := by decide
  rw [r4]
  simp only [List.map_toArray, List.map_cons, List.map_nil, hx, hy, hz, hu]
  generalize z'.cells[0 % z'.cells.size]! = c0
  generalize z'.cells[1 % z'.cells.size]! = c1
  generalize z'.cells[2 % z'.cells.size]! = c2
  generalize z'.cells[3 % z'.cells.size]! = c3
  rfl
 ·have hok := M'.ok 0 _ rfl
  have := M'.upd 0 rfl (c' := .sl 1 (.slice (some ⟨g, 0, none⟩) 4 4) 4 (bs [b0, b1, b2, b3])) ⟨Kept.refl _ _, ⟨rfl, .inr ⟨g, 0, 4, rfl, Nat.zero_le _, hok.1, Nat.le_refl _, by simp only [maxLen]; omega, hok.2.1, hok.2.2⟩⟩, fun k hk => .inl (by simpa [Chunk.fp, Value.ownBlock] using hk)⟩
  simpa using this
theorem qEq (M : Mem F w0 w L) {t e : TypeId} {size bytes : Nat} (T : SliceT P t e size bytes) (ho : o.op = .buildSlice t 0 #[]) (hw : Region.wanted o (yielded ops a.tmps) = true)
  (h : ∀ (g : Nat) (w' : World), Mem F w0 w' (.sl size (.slice (some ⟨g, 0, none⟩) 0 0) 0 [] :: L) → wpList P ops Q rest (a.put o.dst (.slice (some ⟨g, 0, none⟩) 0 0)) w') : wpList P ops Q (o :: rest) a w :=
 wpW hw fun _ hK => by
  obtain ⟨ht, ⟨i, z', hi, hz', hsize, hby, hzs⟩, hsz⟩ := T
  have hr : (Instr.buildSlice t 0 #[]).run P w = .ok (.slice (some ⟨w.heap.size, 0, none⟩) 0 0) (w.alloc (.cells #[] e)) := by
   have r0 : Array.range 0 = (#[] : Array Nat) := by decide
   simp [Instr.buildSlice, run_underlying ht, sizeOf, typeInfo, hi, Instr.fill, newRow, r0]
  unfold Oper.wp execOp
  simp only [ho, Sem.run_bind]
  have e0 : (Array.map (fun x : Nat × Operand => (x.1, a.eval x.2)) #[]) = #[] := by simp
  simp only [e0, hr, Result.andThen_ok]
  refine hK _ _ (h _ _ ?_)
  have M' := M.alloc #[] e
  have hok := M'.ok 0 _ rfl
  have := M'.upd 0 rfl (c' := .sl size (.slice (some ⟨w.heap.size, 0, none⟩) 0 0) 0 []) ⟨Kept.refl _ _, ⟨by simp, .inr ⟨w.heap.size, 0, 0, rfl, Nat.zero_le _, hok.1, Nat.le_refl _, by simp only [maxLen]; omega, hok.2.1, by rw [Nat.zero_mul]; exact hok.2.2⟩⟩, fun k hk => .inl (by simpa [Chunk.fp, Value.ownBlock] using hk)⟩
  simpa using this
end
end TL
end Go
