/- The walks of layer 5's reference: when an envelope is right, its head. Conditions: lengths. -/
import Derived.Test.YtidadhbaomieiaaGreatVRef01T
import Derived.Test.YtidadhbaomieiaaGreatZd
namespace Go.Proofs.YtidadhbaomieiaaGreat
open Go.RowKit Go.TL
set_option maxRecDepth 100000 in
set_option maxHeartbeats 2000000 in
theorem refRight_c (k : Int) (b : UInt32) (n : UInt64) (d t : List UInt8) (w : World) :
    Calls Tryz.prog 70 #[.agg (envC k b n d t).toArray] w fun e w' => e = .returned (.bool (rightE k d)) ∧ Below w.heap.size w w' := by
  have M := Mem.start [] w
  unfold rightE
  by_cases h1 : 0 ≤ k
  rw [decide_eq_true h1]
  by_cases h2 : k ≤ 1048576
  rw [decide_eq_true h2]
  by_cases h3 : (d.length : Int) ≤ 8192
  rw [decide_eq_true h3]
  rotate_left
  rw [decide_eq_false h3]
  rotate_left
  rw [decide_eq_false h2]
  rotate_left
  rw [decide_eq_false h1]
  all_goals
    go_enter Tryz.func70, Tryz.ntmps70
    go_wp2_with ((first | ((with_reducible refine tBox (some 1) ?_); refine w_box M _ _ rfl rfl _ rfl (envC k b n d t) rfl ?_; clear M; intro gx w1 M) | ((with_reducible refine tGuard ?_); (with_reducible refine w_stripE ?_ ?_); (focus (refine ⟨_, rfl, ?_⟩; first | (with_reducible rfl) | exact decide_eq_false (by omega) | exact decide_eq_true (by omega)))) | ((with_reducible refine tGuard ?_); first | ((with_reducible refine w_skip1 ?_ ?_); (focus (refine ⟨_, rfl, ?_⟩; first | (with_reducible rfl) | exact decide_eq_false (by omega) | exact decide_eq_true (by omega)))) | ((with_reducible refine w_skip0 ?_ ?_); (focus (refine ⟨_, rfl, ?_⟩; first | (with_reducible rfl) | exact decide_eq_false (by omega) | exact decide_eq_true (by omega))))) | ((with_reducible refine tGuard ?_); refine gdS ?_) | fail | ((with_reducible refine tLoad ?_); go_must (refine ldS ?_)) | ((with_reducible refine tStore ?_); go_must (refine stS ?_; clear M; intro w1 M; (try simp only [setC] at M))) | ((with_reducible refine tBox _ ?_); (refine bxA M ?_; clear M; intro g w1 M))) <;> (try conv => arg 5; simp only [Act.put, List.setIfInBounds_toArray, setC]))
    go_ret
    exact ⟨rfl, M.below⟩
set_option maxRecDepth 100000 in
set_option maxHeartbeats 2000000 in
theorem refHead_c (k : Nat) (b : UInt32) (n : UInt64) (d t : List UInt8) (w : World) (hk : k ≤ 1048576) :
    Calls Tryz.prog 71 #[.agg (envC k b n d t).toArray] w fun e w' => e = .returned (.string (mkS (headL k b n))) ∧ Below w.heap.size w w' := by
  have M := Mem.start [] w
  have h1 := numL_length_le k (by omega)
  have h2 := numL_length_le b.toNat (by have := b.toNat_lt; omega)
  have h3 := numL_length_le n.toNat n.toNat_lt
  have N1 := fun w => Num01_c k (k : Int) rfl w (by omega)
  have N2 := fun w => Num01_c b.toNat (I64 b.toUInt64) (by rw [I64_eq, UInt32.toNat_toUInt64]) w (by have := b.toNat_lt; omega)
  have N3 := fun w => Num01_c n.toNat (I64 n) (by rw [I64_eq]) w n.toNat_lt
  have e1 := I64_nat k (by omega)
  go_enter Tryz.func71, Tryz.ntmps71
  go_wp2_with ((first | ((with_reducible refine tBox (some 1) ?_); refine w_box M _ _ rfl rfl _ rfl (envC k b n d t) rfl ?_; clear M; intro gx w1 M) | ((with_reducible show Code.wp _ (Code.region 1 _ _) _ _ _); go_must (have MR := M; refine region_lowc [(0, false), (4, false), (9, false), (1, false), (2, false), (5, false), (6, false), (10, false), (3, true), (7, true), (8, false), (11, true), (12, false), (13, false)] [(4, .int), (8, .int), (6, .str), (10, .str), (11, .str), (14, .str)] [(1, _), (5, _), (10, _)] (IxOk MR [0]) 14 (by kernel_rfl) (by kernel_rfl) rfl (by kernel_rfl) (lowA MR 0 0 (lowA MR 0 1 (lowA MR 0 2 lows_nil))) (ixOk_self MR _) ?_; replace M := M.drew; simp only [planC, opAt, List.getElem?_toArray, List.getElem?_cons_zero, List.getElem?_cons_succ, Option.getD_some])) | (go_at_call 107; go_must ((first | (with_reducible refine (N1 _).mono ?_) | (with_reducible refine (N2 _).mono ?_) | (with_reducible refine (N3 _).mono ?_)); rintro e w1 ⟨rfl, hb⟩; replace M := M.call hb; clear hb)) | ((with_reducible show Seg _ _ _ _); go_must (first | refine Seg.intro ⟨fun h => absurd rfl h, ?_⟩ | refine Seg.intro ⟨fun _ => ixA, ?_⟩ | refine Seg.intro ⟨ndA, atA, ?_⟩)) | ((with_reducible show OnlyN _ _ _ _ _); refine OnlyN.intro (by kernel_rfl) ?_) | ((with_reducible refine tGuard ?_); first | refine gdS ?_ | (refine gdC ?_ ?_ <;> (intro hgd; rw [hgd]; try (exfalso; simp at hgd; omega)))) | fail | ((with_reducible refine tLoad ?_); go_must (refine ldS ?_)) | ((with_reducible refine tStore ?_); go_must (refine stS ?_; clear M; intro w1 M; (try simp only [setC] at M))) | ((with_reducible refine tBox _ ?_); (refine bxA M ?_; clear M; intro g w1 M))) <;> (try conv => arg 5; simp only [Act.put, List.setIfInBounds_toArray, setC]))
  go_ret
  exact ⟨rfl, M.below⟩
end Go.Proofs.YtidadhbaomieiaaGreat
