/- The walk of layer 6's reference's Key. Conditions: the master's length. -/
import Derived.Test.YtidadhbaomieiaaGreatVRefMO
import Derived.Test.YtidadhbaomieiaaGreatZd
namespace Go.Proofs.YtidadhbaomieiaaGreat
open Go.RowKit Go.TL
set_option maxRecDepth 100000 in
set_option maxHeartbeats 2000000 in
theorem rKey06_c (m : List UInt8) (i : Int) (w : World) (hm : m.length ≤ 1000000) :
    Calls Tryz.prog 22 #[.string (mkS m), .int .i64 i] w fun e w' => e = .returned (.agg (bs (ringU m (w64 i))).toArray) ∧ Below w.heap.size w w' := by
  have M := Mem.start [] w
  have TC := fun w => refTag_c m (ringT ++ bigB (w64 i) 8) w (by omega) (by rw [List.length_append, bigB_length]; decide)
  have SE : ringU m (w64 i) = macL m (ringT ++ bigB (w64 i) 8) := rfl
  have hr : (macL m (ringT ++ bigB (w64 i) 8)).length = 32 := macL_len _ _
  obtain ⟨r, er⟩ : ∃ r, r = macL m (ringT ++ bigB (w64 i) 8) := ⟨_, rfl⟩
  rw [← er] at SE TC hr
  rw [SE]
  obtain ⟨x, ex⟩ : ∃ x, x = w64 i := ⟨_, rfl⟩
  rw [← ex] at TC
  replace TC := Lib.hid TC
  have EX := Lib.hid fun _ : Unit => ex
  clear er SE ex
  go_enter Tryz.func22, Tryz.ntmps22
  go_wp2_with ((first | ((with_reducible refine tAlloc (some 4) 49 ?_); refine w_alloc M _ rfl rfl (.agg (Array.replicate 32 (.int .u8 0))) (bs (List.replicate 32 (0 : UInt8))) (by kernel_rfl) rfl ?_; clear M; intro gr w1 M) | ((with_reducible refine tGuard ?_); first | refine gdS ?_ | (refine gdC ?_ ?_ <;> (intro hgd; rw [hgd]; try (exfalso; simp at hgd; omega)))) | ((with_reducible refine tConv _ 70 9 ?_); go_must (refine cvB ?_)) | ((with_reducible refine tLoad ?_); go_must (refine ldB ?_)) | ((with_reducible refine tStore ?_); go_must (refine stB ?_; clear M; intro w1 M; (try simp only [setC] at M))) | ((with_reducible refine tBox _ ?_); (refine bxA M ?_; clear M; intro g w1 M))) <;> (try conv => arg 5; simp only [Act.put, List.setIfInBounds_toArray, setC]))
  go_loopw [5, 6] (fun sv iv wr => ∃ (j : Nat) (done : List UInt8), j ≤ 8 ∧ iv = .int .i64 ((j : Int) - 1) ∧ sv = .string (mkS (ringT ++ done)) ∧ done ++ bigB x j = bigB x 8 ∧ Mem [] w wr [.row gr (bs (List.replicate 32 0))]) (fun _ iv _ => (intOf iv + 1).toNat)
  case atStart => exact ⟨8, [], by omega, rfl, rfl, rfl, M⟩
  case round =>
    clear M
    obtain ⟨j, done, hj, rfl, rfl, H, M⟩ := hrel
    have H' := Lib.hid H; clear H
    cases j with
    | zero =>
      have hx : done = bigB x 8 := by have := H'.out; simpa [bigB] using this
      subst hx
      go_wp2_with ((first | (go_at_call 48; go_must (refine (TC.out _).mono ?_; rintro e w1 ⟨rfl, hb⟩; replace M := M.call hb; clear hb)) | ((with_reducible refine tGuard ?_); first | refine gdS ?_ | (refine gdC ?_ ?_ <;> (intro hgd; rw [hgd]; try (exfalso; simp at hgd; omega)))) | ((with_reducible refine tConv _ 70 9 ?_); go_must (refine cvB ?_)) | ((with_reducible refine tLoad ?_); go_must (refine ldB ?_)) | ((with_reducible refine tStore ?_); go_must (refine stB ?_; clear M; intro w1 M; (try simp only [setC] at M))) | ((with_reducible refine tBox _ ?_); (refine bxA M ?_; clear M; intro g w1 M))) <;> (try conv => arg 5; simp only [Act.put, List.setIfInBounds_toArray, setC]))
      exact bodyPost_ret (results_row rfl _ _ gr 0 (bs r) _ rfl (M.ok 0 _ rfl).2.1 Tryz.underlying49 rfl (by rw [bs_length, hr]; kernel_rfl)) rfl ⟨rfl, M.below⟩
    | succ k =>
      have e : ((k + 1 : Nat) : Int) - 1 = k := by omega
      rw [e]; clear e
      have b1 : 8 * (k : Int) ≤ 63 := by omega
      have b0 : 0 ≤ 8 * (k : Int) := by omega
      have q3 : I64 (w64 (8 * (k : Int))) = 8 * (k : Int) := by rw [show 8 * (k : Int) = ((8 * k : Nat) : Int) by omega]; exact I64_nat _ (by omega)
      have q4 : (8 * (k : Int)).toNat = 8 * k := by omega
      have hd : done.length ≤ 8 := by have := congrArg List.length H'.out; rw [List.length_append, bigB_length, bigB_length] at this; omega
      have hrt : ringT.length = 4 := rfl
      go_wp2_with ((first | ((with_reducible show wpList _ _ _ (Oper.mk _ (Op.buildSlice 70 1 _) _ _ _ _ :: _) _ _); go_must (refine w_buildSliceB M bytesT _ rfl rfl (by first | exact ev_tmp rfl | exact ev_const) ?_; clear M; intro g w1 M)) | ((with_reducible refine tGuard ?_); first | refine gdS ?_ | (refine gdC ?_ ?_ <;> (intro hgd; rw [hgd]; try (exfalso; simp at hgd; omega)))) | ((with_reducible refine tConv _ 70 9 ?_); go_must (refine cvB ?_)) | ((with_reducible refine tLoad ?_); go_must (refine ldB ?_)) | ((with_reducible refine tStore ?_); go_must (refine stB ?_; clear M; intro w1 M; (try simp only [setC] at M))) | ((with_reducible refine tBox _ ?_); (refine bxA M ?_; clear M; intro g w1 M))) <;> (try conv => arg 5; simp only [Act.put, List.setIfInBounds_toArray, setC]))
      go_roundw
      case rel => exact ⟨k, done ++ [(x >>> (8 * UInt64.ofNat k)).toUInt8], by omega, by go_num, by rw [EX.out ()], by rw [← H'.out]; simp [bigB], M.tail⟩
      case measure => simp [intOf]
end Go.Proofs.YtidadhbaomieiaaGreat
