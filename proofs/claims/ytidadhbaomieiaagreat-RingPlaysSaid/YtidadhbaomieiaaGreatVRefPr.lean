/- The walk of the reference's primes. No conditions. -/
import Derived.Test.YtidadhbaomieiaaGreatVRefW
namespace Go
namespace TL
open Go.RowKit
def us (l : List UInt64) : List Value := l.map fun x => .int .u64 (I64 x)
theorem us_length (l : List UInt64) : (us l).length = l.length := by simp [us]
theorem us_one (l : List UInt64) : ∀ q ∈ us l, q.oneCell' = true := by
  intro q hq; obtain ⟨b, _, rfl⟩ := List.mem_map.1 hq; rfl
theorem us_get {l : List UInt64} {i : Nat} (h : i < l.length) : (us l)[i]? = some (.int .u64 (I64 (l.getD i 0))) := by
  rw [us, List.getElem?_map, List.getD_eq_getElem?_getD, List.getElem?_eq_getElem h]; rfl
theorem prB_pre (p : Nat) : prB p <+: prB (p + 1) := by
  rw [prB]; split
  · exact List.prefix_append _ _
  · exact List.prefix_refl _
theorem prB_pre' (p d : Nat) : prB p <+: prB (p + d) := by
  induction d with
  | zero => exact List.prefix_refl _
  | succ d ih => exact ih.trans (prB_pre (p + d))
theorem prB_312 : prB 312 = P64 := by decide +kernel
theorem prB_311 : (prB 311).length = 63 := by decide +kernel
theorem prB_lt (p : Nat) (h : p ≤ 311) : (prB p).length < 64 := by
  have := (prB_pre' p (311 - p)).length_le
  rw [show p + (311 - p) = 311 by omega, prB_311] at this; omega
theorem prB_ne (p : Nat) (h : p ≤ 312) (i : Nat) (hi : i < (prB p).length) : (prB p).getD i 0 ≠ 0 := by
  have hp := prB_pre' p (312 - p)
  rw [show p + (312 - p) = 312 by omega, prB_312] at hp
  have h1 : P64[i]? = some ((prB p)[i]) := by
    obtain ⟨t, ht⟩ := hp
    rw [← ht, List.getElem?_append_left hi, List.getElem?_eq_getElem hi]
  have h2 : ∀ q ∈ P64, q ≠ 0 := by decide
  rw [List.getD_eq_getElem?_getD, List.getElem?_eq_getElem hi]
  exact h2 _ (List.mem_of_getElem? h1)
theorem all_take (l : List UInt64) (f : UInt64 → Bool) (k : Nat) (h : k < l.length) : (l.take (k + 1)).all f = ((l.take k).all f && f (l.getD k 0)) := by
  rw [List.take_succ_eq_append_getElem h, List.all_append, List.getD_eq_getElem?_getD, List.getElem?_eq_getElem h]; simp
end TL
end Go
namespace Go.Proofs.YtidadhbaomieiaaGreat
open Go.RowKit Go.TL
theorem mod0 (x y : UInt64) : ((I64 x).tmod (I64 y) == 0) = (x % y == 0) := by
  rw [Bool.eq_iff_iff, beq_iff_eq, beq_iff_eq, Int.tmod_eq_emod_of_nonneg (I64_bd x).1, I64_mod, show (0 : Int) = I64 0 from rfl, I64_inj]
set_option maxRecDepth 1000000 in
theorem u64T : SliceT Tryz.prog 210 30 1 8 := ⟨Tryz.underlying210, ⟨_, _, rfl, rfl, rfl, rfl, rfl⟩, by omega⟩
set_option maxHeartbeats 1000000 in
theorem primes_c (w : World) :
    Calls Tryz.prog 119 #[.int .i64 64] w fun e w' => ∃ q cap, e = .returned (.slice q 64 cap) ∧ Mem [] w w' [.sl 1 (.slice q 64 cap) 64 (us P64)] := by
  have M := (Mem.start [] w).nil 1
  go_enter Tryz.func119, Tryz.ntmps119
  go_wp2_with fail
  go_loopw [3, 4] (fun l p wr => ∃ (n : Nat) (q : Option Addr) (cap : Nat), 2 ≤ n ∧ n ≤ 312 ∧ p = .int .u64 (I64 (UInt64.ofNat n)) ∧ l = .slice q (prB n).length cap ∧ Mem [] w wr [.sl 1 (.slice q (prB n).length cap) (prB n).length (us (prB n))]) (fun _ p _ => (312 - intOf p).toNat)
  case atStart => exact ⟨2, none, 0, by omega, by omega, rfl, rfl, M⟩
  case round =>
    clear M
    obtain ⟨n, q, cap, h2, hn, rfl, rfl, M⟩ := hrel
    have hI : I64 (UInt64.ofNat n) = (n : Int) := by rw [I64_eq, UInt64.toNat_ofNat']; omega
    have HI := Lib.hid hI; clear hI
    by_cases hlt : n ≤ 311
    · have hl := prB_lt n hlt
      have hll : ((prB n).length : Int) < 64 := by omega
      go_wp2_with fail
      go_loopw [5, 6] (fun is i wr => ∃ k : Nat, k ≤ (prB n).length ∧ i = .int .i64 k ∧ is = .bool (((prB n).take k).all fun q => UInt64.ofNat n % q != 0) ∧ Mem [] w wr [.sl 1 (.slice q (prB n).length cap) (prB n).length (us (prB n))]) (fun _ i _ => (prB n).length - (intOf i).toNat)
      case atStart => exact ⟨0, by omega, rfl, rfl, M⟩
      case round =>
        clear M
        obtain ⟨k, hk, rfl, rfl, M⟩ := hrel
        by_cases hkl : k < (prB n).length
        · obtain ⟨g, o, rfl⟩ := M.slAddr 0 rfl (by omega)
          have hne := prB_ne n hn k hkl
          obtain ⟨y, ey⟩ : ∃ y, y = (prB n).getD k 0 := ⟨_, rfl⟩
          have hy : (us (prB n))[k]? = some (.int .u64 (I64 y)) := by rw [ey]; exact us_get hkl
          have hm := all_take (prB n) (fun q => UInt64.ofNat n % q != 0) k hkl
          rw [← ey] at hm hne
          have Hm := Lib.hid hm; clear hm ey
          have Hy := Lib.hid hy; clear hy
          have y0 : ¬ I64 y = 0 := fun h => hne (I64_inj.1 (h.trans (rfl : (0 : Int) = I64 0)))
          go_wp2_with (first | ((with_reducible show wpList _ _ _ (Oper.mk _ (Op.load _ _) _ _ _ _ :: _) _ _); go_must (refine w_loadS M 0 _ _ rfl rfl rfl rfl (by decide +kernel) k rfl Hy.out ?_)))
          all_goals
            have hr : _ := ‹((I64 (UInt64.ofNat n)).tmod (I64 y) == 0) = _›
            rw [mod0] at hr
            go_roundw
            case rel => exact ⟨k + 1, by omega, by go_num, by rw [Hm.out, bne, hr]; simp, M⟩
            case measure => simp [intOf]; omega
        · obtain rfl : k = (prB n).length := by omega
          rw [List.take_length]
          have hs : prB (n + 1) = if ((prB n).all fun q => UInt64.ofNat n % q != 0) = true then prB n ++ [UInt64.ofNat n] else prB n := by
            rw [prB]; simp [h2]
          have Hs := Lib.hid hs; clear hs
          have hI2 : I64 (UInt64.ofNat n + 1) = ((n + 1 : Nat) : Int) := by rw [I64_eq, UInt64.toNat_add, UInt64.toNat_ofNat']; simp; omega
          have HI2 := Lib.hid hI2; clear hI2
          have e1 : UInt64.ofNat n + 1 = UInt64.ofNat (n + 1) := by apply UInt64.toNat_inj.1; rw [UInt64.toNat_add]; simp
          have E1 := Lib.hid e1; clear e1
          go_wp2_with ((first | ((with_reducible show wpList _ _ _ (Oper.mk _ (Op.buildSlice _ 1 _) _ _ _ _ :: _) _ _); go_must (refine w_buildSlice1 M u64T (by decide) _ rfl rfl (by first | exact ev_tmp rfl | exact ev_const) _ rfl rfl ?_; clear M; intro g w1 M)) | ((with_reducible refine tApp ?_); go_must (refine w_append_new M 0 u64T _ _ rfl rfl rfl rfl rfl rfl (by first | decide | (intro q hq; simp at hq; subst hq; rfl) | (intro q hq; simp at hq; rcases hq with rfl | rfl; rfl; rfl) | (intro q hq; simp at hq; rcases hq with rfl | rfl | rfl <;> rfl)) (by decide) (by first | (simp only [maxLen]; omega) | (simp [maxLen]; omega)) (by first | omega | (simp; omega)) ?_; clear M; intro q cap w1 M; (try simp only [setC] at M)))) <;> (try conv => arg 5; simp only [Act.put, List.setIfInBounds_toArray, setC]))
          · have ha : ((prB n).all fun q => UInt64.ofNat n % q != 0) = true := by assumption
            have hs := Hs.out
            rw [if_pos ha] at hs
            go_roundw
            case rel => exact ⟨n + 1, _, _, by omega, by omega, by rw [E1.out], by rw [hs, List.length_append]; rfl, by
              rw [hs, List.length_append]; simpa [us] using M⟩
            case measure =>
              show (312 - I64 (UInt64.ofNat n + 1)).toNat < (312 - I64 (UInt64.ofNat n)).toNat
              rw [HI2.out, HI.out]; omega
          · have ha : ((prB n).all fun q => UInt64.ofNat n % q != 0) = false := by assumption
            have hs := Hs.out
            rw [if_neg (by rw [ha]; decide)] at hs
            go_roundw
            case rel => exact ⟨n + 1, _, _, by omega, by omega, by rw [E1.out], by rw [hs], by rw [hs]; exact M⟩
            case measure =>
              show (312 - I64 (UInt64.ofNat n + 1)).toNat < (312 - I64 (UInt64.ofNat n)).toNat
              rw [HI2.out, HI.out]; omega
    · obtain rfl : n = 312 := by omega
      rw [prB_312, P64_length] at M ⊢
      go_wp2_with fail
      go_ret
      exact ⟨_, _, rfl, M⟩
end Go.Proofs.YtidadhbaomieiaaGreat
