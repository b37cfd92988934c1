/- The walks of the reference's numbers: bits.Mul64, square, cube, behind, primes. No conditions but those each theorem names. -/
import Derived.Test.YtidadhbaomieiaaGreatVRefP
import Derived.Test.YtidadhbaomieiaaGreatZb
import Derived.Deep.Cut
namespace Go.Proofs.YtidadhbaomieiaaGreat
open Go.RowKit Go.TL
set_option maxHeartbeats 400000 in
theorem Mul64_c (x y : UInt64) (w : World) :
    Calls Tryz.prog 186 #[.int .u64 (I64 x), .int .u64 (I64 y)] w fun e w' => e = .returned (.tuple #[.int .u64 (I64 (mulHi x y)), .int .u64 (I64 (x * y))]) ∧ w = w' := by
  go_enter Tryz.func186, Tryz.ntmps186
  go_wp2
  go_ret2
  exact ⟨rfl, rfl⟩
theorem I64_eqB (x y : UInt64) : (I64 x = I64 y) ↔ x = y := I64_inj
theorem I64_zeroB (x : UInt64) : (I64 x == 0) = (x == 0) := by
  rw [Bool.eq_iff_iff, beq_iff_eq, beq_iff_eq, show (0 : Int) = I64 0 from rfl, I64_inj]
set_option maxHeartbeats 400000 in
theorem square_c (n p : UInt64) (w : World) :
    Calls Tryz.prog 162 #[.int .u64 (I64 n), .int .u64 (I64 p)] w fun e w' => e = .returned (.bool (sqB n p)) ∧ w = w' := by
  go_enter Tryz.func162, Tryz.ntmps162
  go_wp2_with (first | (go_at_call 186; go_must (refine (Mul64_c _ _ _).mono ?_; rintro e w1 ⟨rfl, rfl⟩)))
  all_goals
    go_ret
    refine ⟨?_, rfl⟩
    simp_all [sqB, I64_lt, I64_le, I64_eqB, I64_zeroB]
set_option maxHeartbeats 400000 in
theorem cube_c (n p : UInt64) (w : World) :
    Calls Tryz.prog 161 #[.int .u64 (I64 n), .int .u64 (I64 p)] w fun e w' => e = .returned (.bool (cuB n p)) ∧ w = w' := by
  go_enter Tryz.func161, Tryz.ntmps161
  go_upto_region 5 with (first | (go_at_call 186; go_must (refine (Mul64_c _ _ _).mono ?_; rintro e w1 ⟨rfl, rfl⟩)))
  obtain ⟨tp, etp⟩ : ∃ tp, tp = mulHi n n * n + mulHi (n * n) n := ⟨_, rfl⟩
  rw [← etp]
  obtain ⟨en, een⟩ : ∃ en, en = n * n * n := ⟨_, rfl⟩
  rw [← een]
  have ES : cuB n p = (decide (tp < p <<< 32) || (tp == p <<< 32 && en == 0)) := by rw [etp, een]; rfl
  have ES' := Lib.hid ES; clear ES etp een
  by_cases h1 : tp < p <<< 32
  · have d1 : decide (I64 tp < I64 (p <<< 32)) = true := by simpa [I64_lt] using h1
    go_wp2
    go_ret
    exact ⟨by rw [ES'.out]; simp [h1], rfl⟩
  · have d1 : decide (I64 tp < I64 (p <<< 32)) = false := by simpa [I64_lt] using h1
    by_cases h2 : tp = p <<< 32
    · have d2 : (I64 tp == I64 (p <<< 32)) = true := by rw [h2]; simp
      have H1 := Lib.hid h1; clear h1
      have H2 := Lib.hid h2; clear h2
      go_wp2
      go_ret
      exact ⟨by rw [ES'.out, I64_zeroB, H2.out]; simp, rfl⟩
    · have d2 : (I64 tp == I64 (p <<< 32)) = false := by rw [beq_eq_false_iff_ne]; intro h; exact h2 (I64_inj.1 h)
      have H1 := Lib.hid h1; clear h1
      have H2 := Lib.hid h2; clear h2
      go_wp2
      go_ret
      exact ⟨by rw [ES'.out]; simp [H1.out, H2.out], rfl⟩
theorem low32 (x : UInt64) : w32 ((I64 x).tmod 4294967296) = (x % 4294967296).toUInt32 := by
  apply UInt32.toNat_inj.1
  rw [toNat_w32, I64_eq]
  simp only [UInt64.toNat_toUInt32, UInt64.toNat_mod, UInt64.reduceToNat]
  rw [Int.tmod_eq_emod_of_nonneg (by omega)]
  omega
theorem I64_natW (i : Nat) (h : i < 1000) : I64 (w64 (i : Int)) = (i : Int) := by
  rw [w64_nat, I64_eq, UInt64.toNat_ofNat']; omega
theorem shl_one (i : Nat) (h : i < 64) : (1 : UInt64) <<< UInt64.ofNat i = w64 (2 ^ i) := by
  have := w64_shl 1 i h
  rw [Int.one_mul] at this
  rw [this]; rfl
set_option maxHeartbeats 400000 in
theorem behind_c (p : UInt64) (three : Bool) (w : World) :
    Calls Tryz.prog 120 #[.int .u64 (I64 p), .bool three] w fun e w' => e = .returned (.int .u32 (I32 (behindW p three))) ∧ w = w' := by
  cases three
  all_goals
    go_enter Tryz.func120, Tryz.ntmps120
    go_wp2
  · go_loop [5, 6] (fun n k => ∃ i : Nat, i ≤ 37 ∧ k = .int .i64 ((i : Int) - 1) ∧ n = .int .u64 (I64 (bh p false (37 - i)))) (fun _ k => (intOf k + 1).toNat)
    case atStart => exact ⟨37, by omega, rfl, rfl⟩
    case round =>
      obtain ⟨i, hi, rfl, rfl⟩ := hrel
      cases i with
      | zero =>
        go_wp2
        go_ret
        exact ⟨by rw [low32]; unfold behindW; rfl, rfl⟩
      | succ i =>
        have e : ((i + 1 : Nat) : Int) - 1 = i := by omega
        rw [e]; clear e
        have hI := I64_natW i (by omega)
        have hi2 : (i : Int) ≤ 36 := by omega
        obtain ⟨b, eb⟩ : ∃ b, b = bh p false (37 - (i + 1)) := ⟨_, rfl⟩
        rw [← eb]
        have EB := Lib.hid eb; clear eb
        have N : bh p false (37 - i) = if sqB (b + w64 (2 ^ i)) p then b + w64 (2 ^ i) else b := by
          rw [EB.out, show 37 - i = (37 - (i + 1)) + 1 by omega, bh, show 36 - (37 - (i + 1)) = i by omega, shl_one i (by omega)]; simp
        have N' := Lib.hid N; clear N
        by_cases hq : sqB (b + w64 (2 ^ i)) p = true
        · go_wp2_with ((go_at_call 162; go_must (refine (square_c _ _ _).mono ?_; rintro e w1 ⟨rfl, rfl⟩)))
          go_round
          case rel => exact ⟨i, by omega, by go_num, by rw [N'.out, if_pos hq]⟩
          case measure => simp [intOf]
        · have hq' : sqB (b + w64 (2 ^ i)) p = false := by simpa using hq
          clear hq
          go_wp2_with ((go_at_call 162; go_must (refine (square_c _ _ _).mono ?_; rintro e w1 ⟨rfl, rfl⟩)))
          go_round
          case rel => exact ⟨i, by omega, by go_num, by rw [N'.out, if_neg (by rw [hq']; decide)]⟩
          case measure => simp [intOf]
  · go_loop [5, 6] (fun n k => ∃ i : Nat, i ≤ 37 ∧ k = .int .i64 ((i : Int) - 1) ∧ n = .int .u64 (I64 (bh p true (37 - i)))) (fun _ k => (intOf k + 1).toNat)
    case atStart => exact ⟨37, by omega, rfl, rfl⟩
    case round =>
      obtain ⟨i, hi, rfl, rfl⟩ := hrel
      cases i with
      | zero =>
        go_wp2
        go_ret
        exact ⟨by rw [low32]; unfold behindW; rfl, rfl⟩
      | succ i =>
        have e : ((i + 1 : Nat) : Int) - 1 = i := by omega
        rw [e]; clear e
        have hI := I64_natW i (by omega)
        have hi2 : (i : Int) ≤ 36 := by omega
        obtain ⟨b, eb⟩ : ∃ b, b = bh p true (37 - (i + 1)) := ⟨_, rfl⟩
        rw [← eb]
        have EB := Lib.hid eb; clear eb
        have N : bh p true (37 - i) = if (decide (b + w64 (2 ^ i) < 68719476736) && cuB (b + w64 (2 ^ i)) p) then b + w64 (2 ^ i) else b := by
          rw [EB.out, show 37 - i = (37 - (i + 1)) + 1 by omega, bh, show 36 - (37 - (i + 1)) = i by omega, shl_one i (by omega)]; simp
        have N' := Lib.hid N; clear N
        by_cases h1 : b + w64 (2 ^ i) < 68719476736
        · have d1 : decide (I64 (b + w64 (2 ^ i)) < 68719476736) = true := by
            rw [show (68719476736 : Int) = I64 68719476736 from rfl]; simpa [I64_lt] using h1
          have H1 := Lib.hid h1; clear h1
          by_cases hq : cuB (b + w64 (2 ^ i)) p = true
          · go_wp2_with ((go_at_call 161; go_must (refine (cube_c _ _ _).mono ?_; rintro e w1 ⟨rfl, rfl⟩)))
            go_round
            case rel => exact ⟨i, by omega, by go_num, by rw [N'.out, if_pos (by rw [hq]; simpa using H1.out)]⟩
            case measure => simp [intOf]
          · have hq' : cuB (b + w64 (2 ^ i)) p = false := by simpa using hq
            clear hq
            go_wp2_with ((go_at_call 161; go_must (refine (cube_c _ _ _).mono ?_; rintro e w1 ⟨rfl, rfl⟩)))
            go_round
            case rel => exact ⟨i, by omega, by go_num, by rw [N'.out, if_neg (by rw [hq']; simp)]⟩
            case measure => simp [intOf]
        · have d1 : decide (I64 (b + w64 (2 ^ i)) < 68719476736) = false := by
            rw [show (68719476736 : Int) = I64 68719476736 from rfl]; simpa [I64_lt] using h1
          have H1 := Lib.hid h1; clear h1
          go_wp2_with ((go_at_call 161; go_must (refine (cube_c _ _ _).mono ?_; rintro e w1 ⟨rfl, rfl⟩)))
          go_round
          case rel => exact ⟨i, by omega, by go_num, by rw [N'.out, if_neg (by simp only [Bool.and_eq_true, decide_eq_true_eq]; intro h; exact H1.out h.1)]⟩
          case measure => simp [intOf]
end Go.Proofs.YtidadhbaomieiaaGreat
