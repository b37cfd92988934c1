/- The walks of layer 4's reference: products, S, its table. No conditions but those each lemma names. -/
import Derived.Test.YtidadhbaomieiaaGreatVAesR
import Derived.Test.YtidadhbaomieiaaGreatZb
namespace Go
namespace TL
theorem snocV (l : List UInt8) (b : UInt8) : bs l ++ [.int .u8 (I8 b)] = bs (l ++ [b]) := by simp [bs, vb]
theorem refA_succ (n : Nat) : refA (n + 1) = refA n ++ [refS (UInt8.ofNat n)] := by unfold refA; rw [List.range_succ, List.map_append]; rfl
theorem refA_len (n : Nat) : (refA n).length = n := by unfold refA; simp
theorem timesS_succ (a b : UInt8) (n : Nat) : timesS a b (n + 1) = tmStep n (timesS a b n) := rfl
theorem half8 (x : UInt8) : w8 ((I8 x).tdiv 2) = x / 2 := by
  rw [I8_eq, show ((x.toNat : Int).tdiv 2) = ((x.toNat / 2 : Nat) : Int) from rfl, w8_nat]
  apply UInt8.toNat_inj.1
  have := x.toNat_lt
  rw [UInt8.toNat_ofNat', UInt8.toNat_div]
  show x.toNat / 2 % 2 ^ 8 = x.toNat / 2
  omega
theorem mirL_succ (b : UInt8) (n : Nat) : mirL b (n + 1) = if timesL b (UInt8.ofNat (n + 1)) = 1 then UInt8.ofNat (n + 1) else mirL b n := rfl
end TL
end Go
namespace Go.Proofs.YtidadhbaomieiaaGreat
open Go.RowKit Go.TL
set_option maxRecDepth 100000 in
set_option maxHeartbeats 4000000 in
theorem times_c (a b : UInt8) (w : World) :
    Calls Tryz.prog 174 #[.int .u8 (I8 a), .int .u8 (I8 b)] w fun e w' => e = .returned (.int .u8 (I8 (timesL a b))) ∧ w = w' := by
  go_enter Tryz.func174, Tryz.ntmps174
  go_wp2_with fail
  go_loopw [0, 1, 5, 6] (fun av bv nv iv wr => ∃ k : Nat, k ≤ 8 ∧ iv = .int .i64 k ∧ av = .int .u8 (I8 (timesS a b k).a) ∧ bv = .int .u8 (I8 (timesS a b k).b) ∧ nv = .int .u8 (I8 (timesS a b k).n) ∧ w = wr) (fun _ _ _ iv _ => 8 - (intOf iv).toNat)
  case atStart => exact ⟨0, by omega, rfl, rfl, rfl, rfl, rfl⟩
  case round =>
    obtain ⟨k, hk, rfl, rfl, rfl, rfl, rfl⟩ := hrel
    by_cases hlt : k < 8
    · have E := timesS_succ a b k
      obtain ⟨x, ex⟩ : ∃ x, x = timesS a b k := ⟨_, rfl⟩
      rw [← ex] at E
      rw [← ex]
      unfold tmStep at E
      clear ex
      by_cases h1 : x.b &&& 1 = 1
      · rw [if_pos h1] at E
        have hc : (I8 (x.b &&& 1) == 1) = true := by rw [h1]; decide
        by_cases h2 : 128 ≤ x.a
        · rw [if_pos h2] at E
          replace E := Lib.hid fun _ : Unit => E
          have hd : 128 ≤ I8 x.a := by rw [I8_eq]; have := UInt8.le_iff_toNat_le.1 h2; simp at this; omega
          clear h1 h2
          go_wp2_with fail
          go_roundw
          case rel => exact ⟨k + 1, by omega, by go_num, by rw [E.out ()], by rw [E.out (), half8], by rw [E.out ()], trivial⟩
          case measure => simp [intOf]; omega
        · rw [if_neg h2] at E
          replace E := Lib.hid fun _ : Unit => E
          have hd : I8 x.a < 128 := by rw [I8_eq]; have : ¬ 128 ≤ x.a.toNat := fun h => h2 (UInt8.le_iff_toNat_le.2 (by simpa using h)); omega
          clear h1 h2
          go_wp2_with fail
          go_roundw
          case rel => exact ⟨k + 1, by omega, by go_num, by rw [E.out ()], by rw [E.out (), half8], by rw [E.out ()], trivial⟩
          case measure => simp [intOf]; omega
      · rw [if_neg h1] at E
        have hc : (I8 (x.b &&& 1) == 1) = false := by
          rw [beq_eq_false_iff_ne]; intro h
          exact h1 (I8_inj.1 (by rw [h]; decide))
        by_cases h2 : 128 ≤ x.a
        · rw [if_pos h2] at E
          replace E := Lib.hid fun _ : Unit => E
          have hd : 128 ≤ I8 x.a := by rw [I8_eq]; have := UInt8.le_iff_toNat_le.1 h2; simp at this; omega
          clear h1 h2
          go_wp2_with fail
          go_roundw
          case rel => exact ⟨k + 1, by omega, by go_num, by rw [E.out ()], by rw [E.out (), half8], by rw [E.out ()], trivial⟩
          case measure => simp [intOf]; omega
        · rw [if_neg h2] at E
          replace E := Lib.hid fun _ : Unit => E
          have hd : I8 x.a < 128 := by rw [I8_eq]; have : ¬ 128 ≤ x.a.toNat := fun h => h2 (UInt8.le_iff_toNat_le.2 (by simpa using h)); omega
          clear h1 h2
          go_wp2_with fail
          go_roundw
          case rel => exact ⟨k + 1, by omega, by go_num, by rw [E.out ()], by rw [E.out (), half8], by rw [E.out ()], trivial⟩
          case measure => simp [intOf]; omega
    · obtain rfl : k = 8 := by omega
      have E := Lib.hid fun _ : Unit => show timesL a b = (timesS a b 8).n from rfl
      obtain ⟨x, ex⟩ : ∃ x, x = timesS a b 8 := ⟨_, rfl⟩
      rw [← ex] at E
      rw [← ex]
      clear ex
      go_wp2_with fail
      go_ret
      exact ⟨by rw [E.out ()]; rfl, rfl⟩
set_option maxRecDepth 100000 in
theorem left_c (b n : UInt8) (k : Int) (w : World) (hk : (k = 1 ∧ n = 1) ∨ (k = 2 ∧ n = 2) ∨ (k = 3 ∧ n = 3) ∨ (k = 4 ∧ n = 4)) :
    Calls Tryz.prog 190 #[.int .u8 (I8 b), .int .u64 k] w fun e w' => e = .returned (.int .u8 (I8 (rl b n))) ∧ w = w' := by
  have k7 : I64 7 = 7 := by decide
  have k6 : I64 6 = 6 := by decide
  have k5 : I64 5 = 5 := by decide
  have k4 : I64 4 = 4 := by decide
  rcases hk with ⟨rfl, rfl⟩ | ⟨rfl, rfl⟩ | ⟨rfl, rfl⟩ | ⟨rfl, rfl⟩
  all_goals
    go_enter Tryz.func190, Tryz.ntmps190
    go_wp2
    go_ret
    exact ⟨rfl, rfl⟩
set_option maxRecDepth 100000 in
set_option maxHeartbeats 2000000 in
theorem refS_c (b : UInt8) (w : World) :
    Calls Tryz.prog 173 #[.int .u8 (I8 b)] w fun e w' => e = .returned (.int .u8 (I8 (refS b))) ∧ w = w' := by
  go_enter Tryz.func173, Tryz.ntmps173
  go_wp2_with fail
  go_loopw [3, 4] (fun mv iv wr => ∃ k : Nat, k ≤ 255 ∧ iv = .int .i64 ((k : Int) + 1) ∧ mv = .int .u8 (I8 (mirL b k)) ∧ w = wr) (fun _ iv _ => 256 - (intOf iv).toNat)
  case atStart => exact ⟨0, by omega, rfl, rfl, rfl⟩
  case round =>
    obtain ⟨k, hk, rfl, rfl, rfl⟩ := hrel
    by_cases hlt : k < 255
    · have E := mirL_succ b k
      have ew : w8 ((k : Int) + 1) = UInt8.ofNat (k + 1) := w8_nat (k + 1)
      have TC := fun w => times_c b (UInt8.ofNat (k + 1)) w
      obtain ⟨m, em⟩ : ∃ m, m = mirL b k := ⟨_, rfl⟩
      obtain ⟨t, et⟩ : ∃ t, t = timesL b (UInt8.ofNat (k + 1)) := ⟨_, rfl⟩
      obtain ⟨j, ej⟩ : ∃ j, j = UInt8.ofNat (k + 1) := ⟨_, rfl⟩
      rw [← em, ← et, ← ej] at E
      rw [← em]
      rw [← et, ← ej] at TC
      rw [← ej] at ew
      clear em et ej
      by_cases h1 : t = 1
      · rw [if_pos h1] at E
        have hc : (I8 t == 1) = true := by rw [h1]; decide
        replace E := Lib.hid fun _ : Unit => E
        clear h1
        go_wp2_with ((go_at_call 174; go_must (refine (TC _).mono ?_; rintro e w1 ⟨rfl, rfl⟩)))
        go_roundw
        case rel => exact ⟨k + 1, by omega, by go_num, by rw [E.out ()], trivial⟩
        case measure => simp [intOf]; omega
      · rw [if_neg h1] at E
        have hc : (I8 t == 1) = false := by
          rw [beq_eq_false_iff_ne]; intro h
          exact h1 (I8_inj.1 (by rw [h]; decide))
        replace E := Lib.hid fun _ : Unit => E
        clear h1
        go_wp2_with ((go_at_call 174; go_must (refine (TC _).mono ?_; rintro e w1 ⟨rfl, rfl⟩)))
        go_roundw
        case rel => exact ⟨k + 1, by omega, by go_num, by rw [E.out ()], trivial⟩
        case measure => simp [intOf]; omega
    · obtain rfl : k = 255 := by omega
      have E := Lib.hid fun _ : Unit => show refS b = affL (mirL b 255) from rfl
      obtain ⟨m, em⟩ : ∃ m, m = mirL b 255 := ⟨_, rfl⟩
      rw [← em] at E
      rw [← em]
      clear em
      go_wp2_with ((go_at_call 190; go_must ((first | (with_reducible refine (left_c _ 1 1 _ (by decide)).mono ?_) | (with_reducible refine (left_c _ 2 2 _ (by decide)).mono ?_) | (with_reducible refine (left_c _ 3 3 _ (by decide)).mono ?_) | (with_reducible refine (left_c _ 4 4 _ (by decide)).mono ?_)); rintro e w1 ⟨rfl, rfl⟩)))
      go_ret
      exact ⟨by rw [E.out ()]; rfl, rfl⟩
set_option maxRecDepth 100000 in
set_option maxHeartbeats 2000000 in
theorem refA_c (w : World) :
    Calls Tryz.prog 145 #[] w fun e w' => ∃ p c, e = .returned (.slice p 256 c) ∧ Mem [] w w' [.sl 1 (.slice p 256 c) 256 (bs boxL)] := by
  have M := (Mem.start [] w).nil 1
  go_enter Tryz.func145, Tryz.ntmps145
  go_wp2_with fail
  go_loopw [1, 2] (fun lv iv wr => ∃ (k : Nat) (q : Option Addr) (c : Nat), k ≤ 256 ∧ iv = .int .i64 k ∧ lv = .slice q k c ∧ Mem [] w wr [.sl 1 (.slice q k c) k (bs (refA k))]) (fun _ iv _ => 256 - (intOf iv).toNat)
  case atStart => exact ⟨0, none, 0, by omega, rfl, rfl, M⟩
  case round =>
    clear M
    obtain ⟨k, q, c, hk, rfl, rfl, M⟩ := hrel
    by_cases hlt : k < 256
    · have E := refA_succ k
      have SC := fun w => refS_c (UInt8.ofNat k) w
      have ew : w8 (k : Int) = UInt8.ofNat k := w8_nat k
      obtain ⟨x, ex⟩ : ∃ x, x = refS (UInt8.ofNat k) := ⟨_, rfl⟩
      obtain ⟨j, ej⟩ : ∃ j, j = UInt8.ofNat k := ⟨_, rfl⟩
      obtain ⟨l, el⟩ : ∃ l, l = refA k := ⟨_, rfl⟩
      rw [← ex] at SC E
      rw [← ej] at SC ew
      rw [← el] at M E
      have E := Lib.hid fun _ : Unit => E
      clear ex ej el
      go_wp2_with ((first | (go_at_call 173; go_must (refine (SC _).mono ?_; rintro e w1 ⟨rfl, rfl⟩)) | ((with_reducible show wpList _ _ _ (Oper.mk _ (Op.buildSlice _ 1 _) _ _ _ _ :: _) _ _); go_must (refine w_buildSlice1 M bytesT (by decide) _ rfl rfl (by first | exact ev_tmp rfl | exact ev_const) _ rfl rfl ?_; clear M; intro g w1 M)) | ((with_reducible refine tApp ?_); go_must (refine w_append_new M 0 bytesT _ _ rfl rfl rfl rfl rfl rfl (by first | decide | (intro q hq; simp at hq; subst hq; rfl) | (intro q hq; simp at hq; rcases hq with rfl | rfl; rfl; rfl) | (intro q hq; simp at hq; rcases hq with rfl | rfl | rfl <;> rfl)) (by decide) (by first | (simp only [maxLen]; omega) | (simp [maxLen]; omega)) (by first | omega | (simp; omega)) ?_; clear M; intro q cap w1 M; (try simp only [setC] at M))) | ((with_reducible refine tGuard ?_); first | refine gdS ?_ | (refine gdC ?_ ?_ <;> (intro hgd; rw [hgd]; try (exfalso; simp at hgd; omega)))) | ((with_reducible refine tConv _ 70 9 ?_); go_must (refine cvB ?_)) | ((with_reducible refine tLoad ?_); go_must (refine ldB ?_)) | ((with_reducible refine tStore ?_); go_must (refine stB ?_; clear M; intro w1 M; (try simp only [setC] at M))) | ((with_reducible refine tBox _ ?_); (refine bxA M ?_; clear M; intro g w1 M))) <;> (try conv => arg 5; simp only [Act.put, List.setIfInBounds_toArray, setC]))
      go_roundw
      case rel => exact ⟨k + 1, q, _, by omega, by go_num, rfl, by rw [E.out (), ← snocV]; exact M⟩
      case measure => simp [intOf]; omega
    · obtain rfl : k = 256 := by omega
      rw [refA_box] at M
      go_wp2_with fail
      go_ret
      exact ⟨q, c, rfl, M⟩
end Go.Proofs.YtidadhbaomieiaaGreat
