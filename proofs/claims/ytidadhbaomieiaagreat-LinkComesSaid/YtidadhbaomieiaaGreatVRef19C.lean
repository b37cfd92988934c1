/- The walk of layer 19's reference's Come. Conditions: lengths. -/
import Derived.Test.YtidadhbaomieiaaGreatY
import Derived.Test.YtidadhbaomieiaaGreatVRef19
import Derived.Test.YtidadhbaomieiaaGreatZy
set_option maxRecDepth 100000
set_option maxHeartbeats 16000000
namespace Go.Proofs.YtidadhbaomieiaaGreat
open Go.RowKit Go.TL
theorem rCome_arg (me fr to : Int) (seed data : List UInt8) (w : World) (hme : 0 ≤ me ∧ me ≤ 1) (hne : to ≠ me ∨ fr ≠ 1 - me) :
  Calls Tryz.prog 31 #[.int .i64 me, .string (mkS seed), .agg #[.int .i64 fr, .int .i64 to, .string (mkS data)]] w fun e w' => e = .returned (.tuple #[.agg (msgC zeroM).toArray, .int .i64 1]) ∧ Below w.heap.size w w' := by
 have M := Mem.start [] w
 have hcs : (¬ to = me) ∨ (to = me ∧ ¬ fr = 1 - me) := by
  by_cases e : to = me
  ·exact .inr ⟨e, fun e2 => by rcases hne with h | h <;> exact h yN1⟩
  ·exact .inl e
 clear hne
 have hsub : 1 - me = 1 - me := rfl
 rcases hcs with h1 | ⟨rfl, h2⟩
 ·have h1' : (to == me) = false := by simpa using h1
  go_enter Tryz.func31, Tryz.ntmps31
  go_wp2_with ((first | ((with_reducible refine tGuard ?_); first | ((with_reducible refine qAC ?_ ?_); exact dcd) | ((with_reducible refine qAH ?_ ?_); exact dcd) | ((with_reducible refine qAI ?_ ?_); exact dcd)) | ((with_reducible refine tBox (some 5) ?_); refine w_box M _ _ rfl rfl _ rfl ([.int .i64 fr, .int .i64 to, .string (mkS data)]) rfl ?_; clear M; intro gp w1 M) | ((with_reducible refine tAlloc (some 6) 67 ?_); refine wal M _ rfl rfl (msgC zeroM) yD ?_; clear M; intro gm w1 M) | ((with_reducible show wpList _ _ _ (Oper.mk _ (Op.store 67 _ _) _ _ _ _ :: _) _ _); refine w_at2 _ _ _ rfl yI yE ?_; intro hx hy; refine qAD (m := zeroM) M 0 _ _ _ rfl rfl hx rfl hy rfl yD qAA qAA ?_; clear hx hy M; intro w1 M; (try simp only [setC] at M)) | ((with_reducible refine tM rfl ?_); refine mS ?_; try (clear M; (first | intro g w1 M | intro w1 M); try simp only [setC] at M)) | ((with_reducible refine tGuard ?_); refine gdC ?_ ?_ <;> (intro hgd; rw [hgd]; try (exfalso; simp at hgd; omega)))) <;> (try conv => arg 5; simp only [apS, setC]))
  exact bodyPost_ret (qAl rfl _ _ gm 0 (msgC zeroM) _ (.int .i64 1) rfl rfl (M.ok 0 _ at0).2.1 Tryz.underlying67 rfl yT) rfl ⟨rfl, M.below⟩
 ·have h2' : (fr == 1 - to) = false := by simpa using h2
  go_enter Tryz.func31, Tryz.ntmps31
  go_wp2_with ((first | ((with_reducible refine tGuard ?_); first | ((with_reducible refine qAC ?_ ?_); exact dcd) | ((with_reducible refine qAH ?_ ?_); exact dcd) | ((with_reducible refine qAI ?_ ?_); exact dcd)) | ((with_reducible refine tBox (some 5) ?_); refine w_box M _ _ rfl rfl _ rfl ([.int .i64 fr, .int .i64 to, .string (mkS data)]) rfl ?_; clear M; intro gp w1 M) | ((with_reducible refine tAlloc (some 6) 67 ?_); refine wal M _ rfl rfl (msgC zeroM) yD ?_; clear M; intro gm w1 M) | ((with_reducible show wpList _ _ _ (Oper.mk _ (Op.store 67 _ _) _ _ _ _ :: _) _ _); refine w_at2 _ _ _ rfl yI yE ?_; intro hx hy; refine qAD (m := zeroM) M 0 _ _ _ rfl rfl hx rfl hy rfl yD qAA qAA ?_; clear hx hy M; intro w1 M; (try simp only [setC] at M)) | ((with_reducible refine tM rfl ?_); refine mS ?_; try (clear M; (first | intro g w1 M | intro w1 M); try simp only [setC] at M)) | ((with_reducible refine tGuard ?_); refine gdC ?_ ?_ <;> (intro hgd; rw [hgd]; try (exfalso; simp at hgd; omega)))) <;> (try conv => arg 5; simp only [apS, setC]))
  exact bodyPost_ret (qAl rfl _ _ gm 0 (msgC zeroM) _ (.int .i64 1) rfl rfl (M.ok 0 _ at0).2.1 Tryz.underlying67 rfl yT) rfl ⟨rfl, M.below⟩
section
variable {me o : Int} {a b : UInt8} (seed data : List UInt8) (w : World)
theorem rCome_bad (he : EndOf me o a b) (hs : seed.length ≤ 1000000) (hd : data.length ≤ 1000000) (hz : (openL (masterK seed b a) 0 data (aboutK b a)).2 ≠ 0) :
  Calls Tryz.prog 31 #[.int .i64 me, .string (mkS seed), .agg #[.int .i64 o, .int .i64 me, .string (mkS data)]] w fun e w' => e = .returned (.tuple #[.agg (msgC zeroM).toArray, .int .i64 (openL (masterK seed b a) 0 data (aboutK b a)).2]) ∧ Below w.heap.size w w' := by
 have M := Mem.start [] w
 have ia : I8 a = me ∧ I8 b = o ∧ 1 - me = o ∧ 0 ≤ me ∧ me ≤ 1 := by rcases he with ⟨h1, h2, rfl, rfl⟩ | ⟨h1, h2, rfl, rfl⟩ <;> (rw [h1, h2]; decide)
 have AC := fun w => rAbout_c b a w
 have GC := fun w => rRing_c seed b a 0 0 w hs
 rw [ia.1, ia.2.1] at AC GC
 have GC' : ∀ w, Calls Tryz.prog 63 #[.string (mkS seed), .int .i64 o, .int .i64 me, .int .u32 0, .int .u64 0] w fun e w' => e = .returned (.agg (ringR ⟨masterK seed b a, 0, 0, 0⟩).toArray) ∧ Below w.heap.size w w' := GC
 have OC := fun w => rOpen06_c ⟨masterK seed b a, 0, 0, 0⟩ data (aboutK b a) w (by show (masterK seed b a).length ≤ _; rw [qCE]; decide) hd (by rw [qBf]; omega)
 simp only at OC
 obtain ⟨⟨t, e⟩, eo⟩ : ∃ x, x = openL (masterK seed b a) 0 data (aboutK b a) := ⟨_, rfl⟩
 rw [← eo] at OC hz ⊢
 simp only at OC hz ⊢
 obtain ⟨R, eR⟩ : ∃ x, x = (ringR ⟨masterK seed b a, 0, 0, 0⟩).toArray := ⟨_, rfl⟩
 rw [← eR] at OC GC'
 obtain ⟨ab, eab⟩ : ∃ x, x = aboutK b a := ⟨_, rfl⟩
 rw [← eab] at OC AC
 have hz1 : ((e : Int) != 0) = true := by simp; exact hz
 have hz2 : ((e : Int) == 0) = false := by simp; exact hz
 obtain ⟨_, _, h3, h4, h5⟩ := ia
 replace OC := Lib.hid OC
 replace AC := Lib.hid AC
 replace GC' := Lib.hid GC'
 clear GC eo eab eR hz he
 subst h3
 go_enter Tryz.func31, Tryz.ntmps31
 go_wp2_with ((first | ((with_reducible refine tGuard ?_); first | ((with_reducible refine qAC ?_ ?_); exact dcd) | ((with_reducible refine qAH ?_ ?_); exact dcd) | ((with_reducible refine qAI ?_ ?_); exact dcd)) | ((with_reducible refine tBox (some 5) ?_); refine w_box M _ _ rfl rfl _ rfl ([.int .i64 (1 - me), .int .i64 me, .string (mkS data)]) rfl ?_; clear M; intro gp w1 M) | ((with_reducible refine tAlloc (some 6) 67 ?_); refine wal M _ rfl rfl (msgC zeroM) yD ?_; clear M; intro gm w1 M) | ((with_reducible show Code.wp _ (Code.region 3 _ _) _ _ _); (have MR := M; refine qAB [(0, false), (1, false), (2, false), (3, false), (5, false), (7, false), (8, false), (9, false), (6, false), (4, true), (10, true), (11, true), (12, false), (13, false), (14, false), (15, false), (16, false)] [(24, .int), (30, .int)] [(6, _)] (IxOk MR [1]) 17 yD yD rfl yD (lowA MR 1 2 qAN) (qAJ MR _) ?_; replace M := M.drew; simp only [planC, opAt, gE])) | (go_at_call 64; (refine (AC.out _).mono ?_; rintro e w1 ⟨rfl, hb⟩; replace M := M.call hb; clear hb)) | (go_at_call 63; (refine (GC'.out _).mono ?_; rintro e w1 ⟨rfl, hb⟩; replace M := M.call hb; clear hb)) | (go_at_call 16; (refine (OC.out _).mono ?_; rintro e w1 ⟨rfl, hb⟩; replace M := M.call hb; clear hb)) | ((with_reducible show wpList _ _ _ (Oper.mk _ (Op.store 67 _ _) _ _ _ _ :: _) _ _); refine w_at2 _ _ _ rfl yI yE ?_; intro hx hy; refine qAD (m := zeroM) M 0 _ _ _ rfl rfl hx rfl hy rfl yD qAA qAA ?_; clear hx hy M; intro w1 M; (try simp only [setC] at M)) | ((with_reducible refine tM rfl ?_); refine mS ?_; try (clear M; (first | intro g w1 M | intro w1 M); try simp only [setC] at M)) | ((with_reducible first | show Seg _ _ _ _ | show OnlyN _ _ _ _ _); refine rA ?_) | ((with_reducible refine tGuard ?_); refine gdC ?_ ?_ <;> (intro hgd; rw [hgd]; try (exfalso; simp at hgd; omega)))) <;> (try conv => arg 5; simp only [apS, setC]))
 exact bodyPost_ret (qAl rfl _ _ gm 0 (msgC zeroM) _ (.int .i64 e) rfl rfl (M.ok 0 _ at0).2.1 Tryz.underlying67 rfl yT) rfl ⟨rfl, M.below⟩
theorem rCome_ok (he : EndOf me o a b) (hs : seed.length ≤ 1000000) (hd : data.length ≤ 1000000) (hz : (openL (masterK seed b a) 0 data (aboutK b a)).2 = 0) :
  Calls Tryz.prog 31 #[.int .i64 me, .string (mkS seed), .agg #[.int .i64 o, .int .i64 me, .string (mkS data)]] w fun e w' => ∃ ov pv, e = .returned (.tuple #[.agg (msgC ((readM (openL (masterK seed b a) 0 data (aboutK b a)).1).1.ms ov pv)).toArray, .int .i64 (readM (openL (masterK seed b a) 0 data (aboutK b a)).1).2]) ∧ Mem [] w w' [.sl 3 ov (readM (openL (masterK seed b a) 0 data (aboutK b a)).1).1.ops.length ((readM (openL (masterK seed b a) 0 data (aboutK b a)).1).1.ops.flatMap opV), .sl 2 pv (readM (openL (masterK seed b a) 0 data (aboutK b a)).1).1.prs.length ((readM (openL (masterK seed b a) 0 data (aboutK b a)).1).1.prs.flatMap prV)] := by
 have M := Mem.start [] w
 have ia : I8 a = me ∧ I8 b = o ∧ 1 - me = o ∧ 0 ≤ me ∧ me ≤ 1 := by rcases he with ⟨h1, h2, rfl, rfl⟩ | ⟨h1, h2, rfl, rfl⟩ <;> (rw [h1, h2]; decide)
 have AC := fun w => rAbout_c b a w
 have GC := fun w => rRing_c seed b a 0 0 w hs
 rw [ia.1, ia.2.1] at AC GC
 have GC' : ∀ w, Calls Tryz.prog 63 #[.string (mkS seed), .int .i64 o, .int .i64 me, .int .u32 0, .int .u64 0] w fun e w' => e = .returned (.agg (ringR ⟨masterK seed b a, 0, 0, 0⟩).toArray) ∧ Below w.heap.size w w' := GC
 have OC := fun w => rOpen06_c ⟨masterK seed b a, 0, 0, 0⟩ data (aboutK b a) w (by show (masterK seed b a).length ≤ _; rw [qCE]; decide) hd (by rw [qBf]; omega)
 simp only at OC
 have hl := qFZ (masterK seed b a) 0 data (aboutK b a)
 obtain ⟨⟨t, e⟩, eo⟩ : ∃ x, x = openL (masterK seed b a) 0 data (aboutK b a) := ⟨_, rfl⟩
 rw [← eo] at OC hz hl ⊢
 simp only at OC hz hl ⊢
 rw [hz, show ((0 : Nat) : Int) = 0 from rfl] at OC
 obtain ⟨R, eR⟩ : ∃ x, x = (ringR ⟨masterK seed b a, 0, 0, 0⟩).toArray := ⟨_, rfl⟩
 rw [← eR] at OC GC'
 obtain ⟨ab, eab⟩ : ∃ x, x = aboutK b a := ⟨_, rfl⟩
 rw [← eab] at OC AC
 have RC := fun w => Read18_c t w yF
 have hrf := (qDK t yF).1
 unfold GivesM at RC
 obtain ⟨⟨Z, re⟩, er⟩ : ∃ x, x = readM t := ⟨_, rfl⟩
 rw [← er] at RC hrf ⊢
 simp only at RC hrf ⊢
 obtain ⟨_, _, h3, h4, h5⟩ := ia
 replace OC := Lib.hid OC
 replace AC := Lib.hid AC
 replace GC' := Lib.hid GC'
 replace RC := Lib.hid RC
 clear GC eo eab eR hz he hl er
 subst h3
 go_enter Tryz.func31, Tryz.ntmps31
 go_wp2_with ((first | ((with_reducible refine tGuard ?_); first | ((with_reducible refine qAC ?_ ?_); exact dcd) | ((with_reducible refine qAH ?_ ?_); exact dcd) | ((with_reducible refine qAI ?_ ?_); exact dcd)) | ((with_reducible refine tBox (some 5) ?_); refine w_box M _ _ rfl rfl _ rfl ([.int .i64 (1 - me), .int .i64 me, .string (mkS data)]) rfl ?_; clear M; intro gp w1 M) | ((with_reducible refine tAlloc (some 6) 67 ?_); refine wal M _ rfl rfl (msgC zeroM) yD ?_; clear M; intro gm w1 M) | ((with_reducible show Code.wp _ (Code.region 3 _ _) _ _ _); (have MR := M; refine qAB [(0, false), (1, false), (2, false), (3, false), (5, false), (7, false), (8, false), (9, false), (6, false), (4, true), (10, true), (11, true), (12, false), (13, false), (14, false), (15, false), (16, false)] [(24, .int), (30, .int)] [(6, _)] (IxOk MR [1]) 17 yD yD rfl yD (lowA MR 1 2 qAN) (qAJ MR _) ?_; replace M := M.drew; simp only [planC, opAt, gE])) | (go_at_call 64; (refine (AC.out _).mono ?_; rintro e w1 ⟨rfl, hb⟩; replace M := M.call hb; clear hb)) | (go_at_call 63; (refine (GC'.out _).mono ?_; rintro e w1 ⟨rfl, hb⟩; replace M := M.call hb; clear hb)) | (go_at_call 16; (refine (OC.out _).mono ?_; rintro e w1 ⟨rfl, hb⟩; replace M := M.call hb; clear hb)) | (go_at_call 65; (refine (RC.out _).mono ?_; rintro e w7 ⟨rov, rpv, rfl, N⟩; replace M := M.join N; clear N; simp only [List.cons_append, List.nil_append] at M; have hmf := qDB hrf M)) | ((with_reducible show wpList _ _ _ (Oper.mk _ (Op.store 67 _ _) _ _ _ _ :: _) _ _); refine w_at2 _ _ _ rfl yI yE ?_; intro hx hy; refine qAD (m := Z.ms rov rpv) M 2 _ _ _ rfl rfl hx rfl hy rfl yD hmf qAA ?_; clear hx hy M; intro w1 M; (try simp only [setC] at M)) | ((with_reducible refine tM rfl ?_); refine mS ?_; try (clear M; (first | intro g w1 M | intro w1 M); try simp only [setC] at M)) | ((with_reducible first | show Seg _ _ _ _ | show OnlyN _ _ _ _ _); refine rA ?_) | ((with_reducible refine tGuard ?_); refine gdC ?_ ?_ <;> (intro hgd; rw [hgd]; try (exfalso; simp at hgd; omega)))) <;> (try conv => arg 5; simp only [apS, setC]))
 exact bodyPost_ret (qAl rfl _ _ gm 0 (msgC (Z.ms rov rpv)) _ (.int .i64 re) rfl rfl (M.ok 2 _ at2).2.1 Tryz.underlying67 rfl (by rw [qAs hmf]; kernel_rfl)) rfl ⟨_, _, rfl, M.sel [0, 1] _ yN rfl⟩
end
end Go.Proofs.YtidadhbaomieiaaGreat
