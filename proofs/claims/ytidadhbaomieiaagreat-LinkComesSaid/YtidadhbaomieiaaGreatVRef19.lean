/- The walks of layer 19's reference: About, Ring. Conditions: the seed's length. -/
import Derived.Test.YtidadhbaomieiaaGreatY
import Derived.Test.YtidadhbaomieiaaGreatZr
import Derived.Test.YtidadhbaomieiaaGreatZm
set_option maxRecDepth 100000
set_option maxHeartbeats 16000000
namespace Go.Proofs.YtidadhbaomieiaaGreat
open Go.RowKit Go.TL
theorem rAbout_c (a b : UInt8) (w : World) : Calls Tryz.prog 64 #[.int .i64 (I8 a), .int .i64 (I8 b)] w fun e w' => e = .returned (.string (mkS (aboutK a b))) ∧ Below w.heap.size w w' := by
 have M := Mem.start [] w
 go_enter Tryz.func64, Tryz.ntmps64
 go_wp2_with ((first | ((with_reducible show wpList _ _ _ (Oper.mk _ (Op.buildSlice 70 2 _) _ _ _ _ :: _) _ _); (refine w_build2 M bytesT (b0 := a) (b1 := b) _ _ rfl rfl rfl rfl ?_; clear M; intro g w1 M)) | ((with_reducible refine tM rfl ?_); refine mB ?_; try (clear M; (first | intro g w1 M | intro w1 M); try simp only [setC] at M)) | ((with_reducible refine tGuard ?_); refine gdC ?_ ?_ <;> (intro hgd; rw [hgd]; try (exfalso; simp at hgd; omega)))) <;> (try conv => arg 5; simp only [apS, setC]))
 go_ret
 exact ⟨rfl, M.below⟩
theorem rRing_c (seed : List UInt8) (a b : UInt8) (bb : UInt32) (n : UInt64) (w : World) (hs : seed.length ≤ 1000000) : Calls Tryz.prog 63 #[.string (mkS seed), .int .i64 (I8 a), .int .i64 (I8 b), .int .u32 (I32 bb), .int .u64 (I64 n)] w fun e w' => e = .returned (.agg (ringR ⟨masterK seed a b, 0, bb, n⟩).toArray) ∧ Below w.heap.size w w' := by
 have M := Mem.start [] w
 have TC := fun w => qEy seed (aboutK a b) w yF (by rw [qBf]; omega)
 have hr : (macL seed (aboutK a b)).length = 32 := qAq _ _
 have SE : masterK seed a b = macL seed (aboutK a b) := rfl
 have AC := fun w => rAbout_c a b w
 obtain ⟨r, er⟩ : ∃ r, r = macL seed (aboutK a b) := ⟨_, rfl⟩
 rw [← er] at TC hr SE
 rw [SE]
 obtain ⟨k, ek⟩ : ∃ k, k = aboutK a b := ⟨_, rfl⟩
 rw [← ek] at TC AC
 replace TC := Lib.hid TC
 replace AC := Lib.hid AC
 clear er ek SE
 go_enter Tryz.func63, Tryz.ntmps63
 go_wp2_with ((first | ((with_reducible refine tAlloc (some 10) 32 ?_); refine wal M _ rfl rfl ([.string (mkS []), .int .i64 0, .int .u32 0, .int .u64 0]) yD ?_; clear M; intro gr w1 M) | ((with_reducible refine tAlloc (some 11) 49 ?_); refine wal M _ rfl rfl (bs (List.replicate 32 (0 : UInt8))) yD ?_; clear M; intro gh w1 M) | (go_at_call 64; (refine (AC.out _).mono ?_; rintro e w1 ⟨rfl, hb⟩; replace M := M.call hb; clear hb)) | (go_at_call 48; (refine (TC.out _).mono ?_; rintro e w1 ⟨rfl, hb⟩; replace M := M.call hb; clear hb)) | ((with_reducible refine tM rfl ?_); refine mB ?_; try (clear M; (first | intro g w1 M | intro w1 M); try simp only [setC] at M)) | ((with_reducible refine tGuard ?_); refine gdC ?_ ?_ <;> (intro hgd; rw [hgd]; try (exfalso; simp at hgd; omega)))) <;> (try conv => arg 5; simp only [apS, setC]))
 exact bodyPost_ret (qAS rfl _ _ _ 0 (ringR ⟨r, 0, bb, n⟩) _ rfl (M.ok 1 _ at1).2.1 Tryz.underlying32 rfl yD) rfl ⟨rfl, M.below⟩
end Go.Proofs.YtidadhbaomieiaaGreat
