/- The walks of the reference's layer 1: a number's and a text's bytes. Conditions: lengths. -/
import Derived.Test.YtidadhbaomieiaaGreatZc
import Derived.Test.YtidadhbaomieiaaGreatZb
import Derived.IntWalk
import Derived.OwnWalk
namespace Go
namespace TL
theorem byte128' (m : Nat) : 128 + (w64 ((m : Int) % 128)).toUInt8 = UInt8.ofNat (m % 128 + 128) := by
  rw [show ((m : Int) % 128) = ((m % 128 : Nat) : Int) by omega, w64_nat]
  apply UInt8.toNat_inj.1
  simp
  omega
end TL
end Go
namespace Go.Proofs.YtidadhbaomieiaaGreat
open Go.RowKit Go.TL
set_option maxHeartbeats 2000000 in
theorem Num01_c (n : Nat) (a : Int) (ha : a = (n : Int)) (w : World) (h : n < 18446744073709551616) :
    Calls Tryz.prog 107 #[.int .u64 a] w fun e w' => e = .returned (.string (mkS (numL n))) ∧ Below w.heap.size w w' := by
  subst ha
  have M := Mem.start [] w
  have hn10 := numL_length_le n h
  go_enter Tryz.func107, Tryz.ntmps107
  go_wp2_with fail
  (try conv => arg 4; dsimp only [mkS_fold])
  go_loopw [0, 3] (fun nv sv wr => ∃ (m : Nat) (d : List UInt8), m < 18446744073709551616 ∧ nv = .int .u64 m ∧ sv = .string (mkS d) ∧ Hid (d ++ numL m = numL n) ∧ Mem [] w wr []) (fun nv _ _ => (intOf nv).toNat)
  case atStart => exact ⟨n, [], h, rfl, rfl, Lib.hid rfl, M⟩
  case round =>
    clear M
    obtain ⟨m, d, hm, rfl, rfl, HD, M⟩ := hrel
    have hdl : d.length ≤ 10 := by have := congrArg List.length HD.out; simp at this; omega
    by_cases h128 : m < 128
    · have h127 : (m : Int) ≤ 127 := by omega
      go_wp2_with ((first | ((with_reducible show wpList _ _ _ (Oper.mk _ (Op.buildSlice 70 1 _) _ _ _ _ :: _) _ _); go_must (refine w_buildSliceB M bytesT _ rfl rfl (by first | exact ev_tmp rfl | exact ev_const) ?_; clear M; intro g w1 M)) | ((with_reducible refine tGuard ?_); first | refine gdS ?_ | (refine gdC ?_ ?_ <;> (intro hgd; rw [hgd]; try (exfalso; simp at hgd; omega)))) | ((with_reducible refine tConv _ 70 9 ?_); go_must (refine cvB ?_)) | ((with_reducible refine tLoad ?_); go_must (refine ldB ?_)) | ((with_reducible refine tStore ?_); go_must (refine stB ?_; clear M; intro w1 M; (try simp only [setC] at M))) | ((with_reducible refine tBox _ ?_); (refine bxA M ?_; clear M; intro g w1 M))) <;> (try conv => arg 5; simp only [Act.put, List.setIfInBounds_toArray, setC]))
      go_ret
      refine ⟨?_, M.below⟩
      have e := HD.out
      rw [numL_small h128] at e
      rw [← e, ← w8_nat]; rfl
    · have h127 : (127 : Int) < m := by omega
      go_wp2_with ((first | ((with_reducible show wpList _ _ _ (Oper.mk _ (Op.buildSlice 70 1 _) _ _ _ _ :: _) _ _); go_must (refine w_buildSliceB M bytesT _ rfl rfl (by first | exact ev_tmp rfl | exact ev_const) ?_; clear M; intro g w1 M)) | ((with_reducible refine tGuard ?_); first | refine gdS ?_ | (refine gdC ?_ ?_ <;> (intro hgd; rw [hgd]; try (exfalso; simp at hgd; omega)))) | ((with_reducible refine tConv _ 70 9 ?_); go_must (refine cvB ?_)) | ((with_reducible refine tLoad ?_); go_must (refine ldB ?_)) | ((with_reducible refine tStore ?_); go_must (refine stB ?_; clear M; intro w1 M; (try simp only [setC] at M))) | ((with_reducible refine tBox _ ?_); (refine bxA M ?_; clear M; intro g w1 M))) <;> (try conv => arg 5; simp only [Act.put, List.setIfInBounds_toArray, setC]))
      go_roundw
      case rel => exact ⟨m / 128, d ++ [UInt8.ofNat (m % 128 + 128)], by omega, by rw [show ((m : Int) / 128) = ((m / 128 : Nat) : Int) by omega, I64_nat _ (by omega)], by rw [byte128'], Lib.hid (by rw [← HD.out, numL_big (n := m) (by omega)]; simp), M.tail⟩
      case measure =>
        rw [show ((m : Int) / 128) = ((m / 128 : Nat) : Int) by omega, I64_nat _ (by omega)]
        simp only [intOf]; omega
set_option maxHeartbeats 1000000 in
theorem Text01_c (t : List UInt8) (w : World) (ht : t.length ≤ 1000000000) :
    Calls Tryz.prog 72 #[.string (mkS t)] w fun e w' => e = .returned (.string (mkS (textL t))) ∧ Below w.heap.size w w' := by
  have M := Mem.start [] w
  have hn := numL_length_le t.length (by omega)
  go_enter Tryz.func72, Tryz.ntmps72
  go_wp2_with ((go_at_call 107; go_must (refine (Num01_c t.length _ (I64_nat _ (by omega)) _ (by omega)).mono ?_; rintro e w1 ⟨rfl, hb⟩; replace M := M.call hb; clear hb)))
  go_ret
  exact ⟨rfl, M.below⟩
end Go.Proofs.YtidadhbaomieiaaGreat
