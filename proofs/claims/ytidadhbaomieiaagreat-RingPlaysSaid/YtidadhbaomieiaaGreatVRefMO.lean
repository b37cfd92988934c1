/- The walk of the reference's tag. Conditions: lengths. -/
import Derived.Test.YtidadhbaomieiaaGreatZb
import Derived.Test.YtidadhbaomieiaaGreatVRefS
import Derived.Test.YtidadhbaomieiaaGreatVMacPL
namespace Go
namespace TL
open Go.RowKit
theorem macPad_keyL (key : List UInt8) (x : UInt8) : macPad (keyL key) x = macPad key x := by
  have e : keyL (keyL key) = keyL key := by
    have := keyL_length key
    rw [keyL, if_neg (by omega)]
  simp only [macPad, keyB, e]
theorem take_getD (l : List UInt8) (k : Nat) (h : k < l.length) (x : UInt8) (hx : x = l.getD k 0) : l.take k ++ [x] = l.take (k + 1) := by
  subst hx
  rw [List.take_succ_eq_append_getElem h, List.getD_eq_getElem?_getD, List.getElem?_eq_getElem h]; rfl
end TL
end Go
namespace Go.Proofs.YtidadhbaomieiaaGreat
open Go.RowKit Go.TL
set_option maxHeartbeats 2000000 in
theorem refTag_c (key text : List UInt8) (w : World) (hk : key.length ≤ 10000000000) (ht : text.length ≤ 10000000000) :
    Calls Tryz.prog 48 #[.string (mkS key), .string (mkS text)] w fun e w' => e = .returned (.agg (bs (macL key text)).toArray) ∧ Below w.heap.size w w' := by
  have M := Mem.start [] w
  by_cases h64 : 64 < key.length
  all_goals
    go_enter Tryz.func48, Tryz.ntmps48
    go_wp2_with ((first | ((with_reducible refine tGuard ?_); first | refine gdS ?_ | (refine gdC ?_ ?_ <;> (intro hgd; rw [hgd]; try (exfalso; simp at hgd; omega)))) | ((with_reducible refine tConv _ 70 9 ?_); go_must (refine cvB ?_)) | ((with_reducible refine tLoad ?_); go_must (refine ldB ?_)) | ((with_reducible refine tStore ?_); go_must (refine stB ?_; clear M; intro w1 M; (try simp only [setC] at M))) | ((with_reducible refine tBox _ ?_); (refine bxA M ?_; clear M; intro g w1 M)) | ((with_reducible refine tAlloc (some 4) 49 ?_); refine w_alloc M _ rfl rfl (.agg (Array.replicate 32 (.int .u8 0))) (bs (List.replicate 32 (0 : UInt8))) (by kernel_rfl) rfl ?_; clear M; intro gr w1 M) | ((with_reducible refine tAlloc _ 49 ?_); refine w_alloc M _ rfl rfl (.agg (Array.replicate 32 (.int .u8 0))) (bs (List.replicate 32 (0 : UInt8))) (by kernel_rfl) rfl ?_; clear M; intro g w1 M) | (go_at_call 89; go_must (refine (refSum_c _ _ (by omega)).mono ?_; rintro e w1 ⟨rfl, hb⟩; replace M := M.call hb; clear hb))) <;> (try conv => arg 5; simp only [Act.put, List.setIfInBounds_toArray, setC]))
  obtain ⟨k', ek⟩ : ∃ k', k' = keyL key := ⟨_, rfl⟩
  have ek2 : shaL key = k' := by rw [ek, keyL, if_pos h64]
  rw [ek2]
  replace M := M.tail
  clear ek2
  rotate_left
  obtain ⟨k', ek⟩ : ∃ k', k' = keyL key := ⟨_, rfl⟩
  have ek2 : key = k' := by rw [ek, keyL, if_neg h64]
  rw [ek2]
  clear ek2
  rotate_left
  all_goals
    have hk' : k'.length ≤ 64 := by rw [ek]; exact keyL_length key
    obtain ⟨P1, e1⟩ : ∃ P, P = macPad k' 54 := ⟨_, rfl⟩
    obtain ⟨P2, e2⟩ : ∃ P, P = macPad k' 92 := ⟨_, rfl⟩
    have l1 : P1.length = 64 := by rw [e1]; exact macPad_length _ _
    have l2 : P2.length = 64 := by rw [e2]; exact macPad_length _ _
    have E1 := Lib.hid e1; clear e1
    have E2 := Lib.hid e2; clear e2
    have EKK := Lib.hid ek; clear ek
    have eE : Value.string ⟨#[]⟩ = .string (mkS []) := rfl
    rw [eE]
    go_loopw [6, 7, 8] (fun a b iv wr => ∃ k : Nat, k ≤ 64 ∧ iv = .int .i64 k ∧ a = .string (mkS (P1.take k)) ∧ b = .string (mkS (P2.take k)) ∧ Mem [] w wr [.row gr (bs (List.replicate 32 0))]) (fun _ _ iv _ => 64 - (intOf iv).toNat)
    case atStart => exact ⟨0, by omega, rfl, rfl, rfl, M⟩
    case round =>
      clear M
      obtain ⟨k, hk64, rfl, rfl, rfl, M⟩ := hrel
      by_cases hlt : k < 64
      · have hp1 := Lib.hid (macPad_getD k' 54 hk' k hlt)
        have hp2 := Lib.hid (macPad_getD k' 92 hk' k hlt)
        rw [← E1.out] at hp1
        rw [← E2.out] at hp2
        have hle1 : (P1.take k).length ≤ 64 := by rw [List.length_take]; omega
        have hle2 : (P2.take k).length ≤ 64 := by rw [List.length_take]; omega
        by_cases hkl : k < k'.length
        all_goals
          go_wp2_with ((first | ((with_reducible show wpList _ _ _ (Oper.mk _ (Op.buildSlice 70 1 _) _ _ _ _ :: _) _ _); go_must (refine w_buildSliceB M bytesT _ rfl rfl (by first | exact ev_tmp rfl | exact ev_const) ?_; clear M; intro g w1 M)) | ((with_reducible refine tGuard ?_); first | refine gdS ?_ | (refine gdC ?_ ?_ <;> (intro hgd; rw [hgd]; try (exfalso; simp at hgd; omega)))) | ((with_reducible refine tConv _ 70 9 ?_); go_must (refine cvB ?_)) | ((with_reducible refine tLoad ?_); go_must (refine ldB ?_)) | ((with_reducible refine tStore ?_); go_must (refine stB ?_; clear M; intro w1 M; (try simp only [setC] at M))) | ((with_reducible refine tBox _ ?_); (refine bxA M ?_; clear M; intro g w1 M))) <;> (try conv => arg 5; simp only [Act.put, List.setIfInBounds_toArray, setC]))
          replace M := M.tail.tail
          go_roundw
          case rel => exact ⟨k + 1, by omega, by go_num, by
            rw [← take_getD P1 k (by omega) _ hp1.out.symm]; first | rw [if_pos hkl] | rw [if_neg hkl]
            (first | rfl | (simp [hkl]; done)), by
            rw [← take_getD P2 k (by omega) _ hp2.out.symm]; first | rw [if_pos hkl] | rw [if_neg hkl]
            (first | rfl | (simp [hkl]; done)), M⟩
          case measure => simp [intOf]; omega
      · obtain rfl : k = 64 := by omega
        rw [List.take_of_length_le (by omega), List.take_of_length_le (by omega)]
        go_wp2_with ((first | ((with_reducible refine tGuard ?_); first | refine gdS ?_ | (refine gdC ?_ ?_ <;> (intro hgd; rw [hgd]; try (exfalso; simp at hgd; omega)))) | ((with_reducible refine tConv _ 70 9 ?_); go_must (refine cvB ?_)) | ((with_reducible refine tLoad ?_); go_must (refine ldB ?_)) | ((with_reducible refine tStore ?_); go_must (refine stB ?_; clear M; intro w1 M; (try simp only [setC] at M))) | ((with_reducible refine tBox _ ?_); (refine bxA M ?_; clear M; intro g w1 M)) | ((with_reducible refine tAlloc (some 10) 49 ?_); refine w_alloc M _ rfl rfl (.agg (Array.replicate 32 (.int .u8 0))) (bs (List.replicate 32 (0 : UInt8))) (by kernel_rfl) rfl ?_; clear M; intro gh w1 M) | (go_at_call 89; go_must (refine (refSum_c _ _ (by first | (simp;omega) | (simp [shaL_len] <;> omega))).mono ?_; rintro e w1 ⟨rfl, hb⟩; replace M := M.call hb; clear hb))) <;> (try conv => arg 5; simp only [Act.put, List.setIfInBounds_toArray, setC]))
        have hr : shaL (P2 ++ shaL (P1 ++ text)) = macL key text := by rw [E1.out, E2.out, EKK.out, macPad_keyL, macPad_keyL]; rfl
        refine bodyPost_ret (results_row rfl _ _ gr 0 (bs (shaL (P2 ++ shaL (P1 ++ text)))) _ rfl (M.ok 1 _ rfl).2.1 Tryz.underlying49 rfl (by kernel_rfl)) rfl ⟨by rw [hr], M.below⟩
end Go.Proofs.YtidadhbaomieiaaGreat
