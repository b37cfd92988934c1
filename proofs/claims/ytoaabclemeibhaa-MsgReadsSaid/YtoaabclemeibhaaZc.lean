/- Texts of this seat, put together: Ref12, Ref12T, BatA0, MsgF, TurnK, MsgG, InM, MsgH, MsgL, PathN, Path, Ref11N, Ref11, BatP0, BatE0, BatM0, OutNew, BatD, InT. Each begins with a remark that says what is proved in it, and under which conditions. -/
import Derived.IntWalk
import Derived.OwnWalk
import Derived.Test.YtoaabclemeibhaaZb
/- The walks of the reference's layer 12: a number's and a text's bytes, and how they are read. Conditions: lengths. -/
namespace Go
namespace TL
open Go.RowKit
def irV (x : RS) : List Value := [.string (mkS x.rest), .int .i64 x.err]
theorem or12 (n k : Nat) (b : UInt8) (hn : n < 128 ^ k) (h : n + b.toNat % 128 * 128 ^ k < 18446744073709551616) :
    I64 (w64 (n : Int) ||| w64 (I64 (w64 (I8 b % 128)) * 2 ^ (7 * k))) = ((n + b.toNat % 128 * 128 ^ k : Nat) : Int) := by
  have hb := b.toNat_lt
  rw [I8_eq, show ((b.toNat : Int) % 128) = ((b.toNat % 128 : Nat) : Int) by omega, I64_nat _ (by omega)]
  have e : (128 : Nat) ^ k = 2 ^ (7 * k) := by rw [show (128 : Nat) = 2 ^ 7 from rfl, ← Nat.pow_mul]
  have e2 : (((b.toNat % 128 : Nat) : Int) * 2 ^ (7 * k)) = ((b.toNat % 128 * 2 ^ (7 * k) : Nat) : Int) := by simp
  rw [e2, w64_nat, w64_nat, I64_eq, UInt64.toNat_or, UInt64.toNat_ofNat', UInt64.toNat_ofNat', ← or_shl n _ k hn]
  rw [e] at h
  rw [Nat.mod_eq_of_lt (by omega), Nat.mod_eq_of_lt (by omega)]
theorem byte128 (m : Nat) : (w64 ((m : Int) % 128)).toUInt8 + 128 = UInt8.ofNat (m % 128 + 128) := by
  rw [show ((m : Int) % 128) = ((m % 128 : Nat) : Int) by omega, w64_nat]
  apply UInt8.toNat_inj.1
  simp
end TL
end Go
namespace Go.Proofs.Ytoaabclemeibhaa
open Go.RowKit Go.TL
set_option maxHeartbeats 2000000 in
theorem Num12_c (n : Nat) (a : Int) (ha : a = (n : Int)) (w : World) (h : n < 18446744073709551616) :
    Calls Try.prog 65 #[.int .u64 a] w fun e w' => e = .returned (.string (mkS (numL n))) ∧ Below w.heap.size w w' := by
  subst ha
  have M := Mem.start [] w
  have hn10 := numL_length_le n h
  go_enter Try.func65, Try.ntmps65
  go_wp2_with fail
  (try conv => arg 4; dsimp only [mkS_fold])
  go_loopw [0, 3] (fun nv sv wr => ∃ (m : Nat) (d : List UInt8), m < 18446744073709551616 ∧ nv = .int .u64 m ∧ sv = .string (mkS d) ∧ Hid (d ++ numL m = numL n) ∧ Mem [] w wr []) (fun nv _ _ => (intOf nv).toNat)
  case atStart => exact ⟨n, [], h, rfl, rfl, Lib.hid rfl, M⟩
  case round =>
    clear M
    obtain ⟨m, d, hm, rfl, rfl, HD, M⟩ := hrel
    have hdl : d.length ≤ 10 := by have := congrArg List.length HD.out; simp at this; omega
    by_cases h128 : m < 128
    · have h127 : (m : Int) ≤ 127 := by omega
      go_wp2_with ((first | ((with_reducible show wpList _ _ _ (Oper.mk _ (Op.buildSlice 41 1 _) _ _ _ _ :: _) _ _); go_must (refine w_buildSliceB M bytesT _ rfl rfl (by first | exact ev_tmp rfl | exact ev_const) ?_; clear M; intro g w1 M)) | ((with_reducible refine tGuard ?_); first | refine w_strip rfl (by with_reducible rfl) ?_ | ((fail_if_success (refine w_lit false rfl (by with_reducible rfl) ?_)); (fail_if_success (refine w_lit true rfl (by with_reducible rfl) ?_)); refine w_case rfl ?_ ?_ <;> (intro hgd; rw [hgd]; try (exfalso; simp at hgd; omega)))) | ((with_reducible refine tConv _ 41 9 ?_); go_must (first | refine w_stringW M _ _ _ _ _ rfl rfl (by first | exact at0) rfl (by first | assumption | exact lenI | exact lenS ‹_› | rfl) (by decide) Try.underlying41 Try.underlying5 Try.underlying9 ?_ | refine w_string M _ _ _ _ _ rfl rfl (by first | exact at0) (by first | rfl | (simp; done) | assumption) rfl Try.underlying41 Try.underlying5 Try.underlying9 ?_)) | ((with_reducible refine tLoad ?_); go_must (refine w_at _ _ rfl (by exact ev_tmp rfl) ?_; intro hx; (first | refine w_load M _ _ _ rfl (by first | exact at0) hx rfl (by decide +kernel) (by exact rfl) ?_ | refine w_loadB M _ _ _ rfl (by first | exact at0) hx rfl (by decide +kernel) (by first | assumption | omega | (simp; omega)) ?_ | refine w_loadH M _ _ _ rfl (by first | exact at0) hx rfl (by decide +kernel) (by first | assumption | exact lenI | exact lenS ‹_› | rfl) (by decide +kernel) ?_ | refine w_loadR M _ _ _ rfl (by first | exact at0) hx rfl (by decide +kernel) (by kernel_rfl) ?_); clear hx)) | ((with_reducible refine tStore ?_); go_must (refine w_at2 _ _ _ rfl (by exact ev_tmp rfl) (by first | exact ev_tmp rfl | exact ev_const) ?_; intro hx hy; (first | refine w_storeB M _ _ _ _ rfl (by first | exact at0) hx rfl hy (by decide +kernel) (by first | assumption | omega | (simp; omega)) ?_ | refine w_storeH M _ _ _ _ rfl (by first | exact at0) hx rfl hy (by first | assumption | exact lenI | exact lenS ‹_› | rfl) (by decide +kernel) (by first | assumption | exact lenI | exact lenS ‹_› | rfl) ?_ | refine w_store M _ _ _ _ rfl (by first | exact at0) hx rfl hy rfl rfl (by decide +kernel) (by first | decide | simp | (simp; omega)) ?_ | refine w_storeR M _ _ _ _ rfl (by first | exact at0) hx rfl _ hy rfl (by kernel_rfl) (by simp [Value.oneCell']) (by first | rfl | assumption) ?_); clear hx hy M; intro w1 M; (try simp only [setC] at M))) | ((with_reducible refine tBox _ ?_); (refine w_box M _ _ rfl rfl _ rfl _ rfl ?_; clear M; intro g w1 M))) <;> (try conv => arg 5; simp only [Act.put, List.setIfInBounds_toArray, setC]))
      go_ret
      refine ⟨?_, M.below⟩
      have e := HD.out
      rw [numL_small h128] at e
      rw [← e, ← w8_nat]; rfl
    · have h127 : (127 : Int) < m := by omega
      go_wp2_with ((first | ((with_reducible show wpList _ _ _ (Oper.mk _ (Op.buildSlice 41 1 _) _ _ _ _ :: _) _ _); go_must (refine w_buildSliceB M bytesT _ rfl rfl (by first | exact ev_tmp rfl | exact ev_const) ?_; clear M; intro g w1 M)) | ((with_reducible refine tGuard ?_); first | refine w_strip rfl (by with_reducible rfl) ?_ | ((fail_if_success (refine w_lit false rfl (by with_reducible rfl) ?_)); (fail_if_success (refine w_lit true rfl (by with_reducible rfl) ?_)); refine w_case rfl ?_ ?_ <;> (intro hgd; rw [hgd]; try (exfalso; simp at hgd; omega)))) | ((with_reducible refine tConv _ 41 9 ?_); go_must (first | refine w_stringW M _ _ _ _ _ rfl rfl (by first | exact at0) rfl (by first | assumption | exact lenI | exact lenS ‹_› | rfl) (by decide) Try.underlying41 Try.underlying5 Try.underlying9 ?_ | refine w_string M _ _ _ _ _ rfl rfl (by first | exact at0) (by first | rfl | (simp; done) | assumption) rfl Try.underlying41 Try.underlying5 Try.underlying9 ?_)) | ((with_reducible refine tLoad ?_); go_must (refine w_at _ _ rfl (by exact ev_tmp rfl) ?_; intro hx; (first | refine w_load M _ _ _ rfl (by first | exact at0) hx rfl (by decide +kernel) (by exact rfl) ?_ | refine w_loadB M _ _ _ rfl (by first | exact at0) hx rfl (by decide +kernel) (by first | assumption | omega | (simp; omega)) ?_ | refine w_loadH M _ _ _ rfl (by first | exact at0) hx rfl (by decide +kernel) (by first | assumption | exact lenI | exact lenS ‹_› | rfl) (by decide +kernel) ?_ | refine w_loadR M _ _ _ rfl (by first | exact at0) hx rfl (by decide +kernel) (by kernel_rfl) ?_); clear hx)) | ((with_reducible refine tStore ?_); go_must (refine w_at2 _ _ _ rfl (by exact ev_tmp rfl) (by first | exact ev_tmp rfl | exact ev_const) ?_; intro hx hy; (first | refine w_storeB M _ _ _ _ rfl (by first | exact at0) hx rfl hy (by decide +kernel) (by first | assumption | omega | (simp; omega)) ?_ | refine w_storeH M _ _ _ _ rfl (by first | exact at0) hx rfl hy (by first | assumption | exact lenI | exact lenS ‹_› | rfl) (by decide +kernel) (by first | assumption | exact lenI | exact lenS ‹_› | rfl) ?_ | refine w_store M _ _ _ _ rfl (by first | exact at0) hx rfl hy rfl rfl (by decide +kernel) (by first | decide | simp | (simp; omega)) ?_ | refine w_storeR M _ _ _ _ rfl (by first | exact at0) hx rfl _ hy rfl (by kernel_rfl) (by simp [Value.oneCell']) (by first | rfl | assumption) ?_); clear hx hy M; intro w1 M; (try simp only [setC] at M))) | ((with_reducible refine tBox _ ?_); (refine w_box M _ _ rfl rfl _ rfl _ rfl ?_; clear M; intro g w1 M))) <;> (try conv => arg 5; simp only [Act.put, List.setIfInBounds_toArray, setC]))
      go_roundw
      case rel => exact ⟨m / 128, d ++ [UInt8.ofNat (m % 128 + 128)], by omega, by rw [show ((m : Int) / 128) = ((m / 128 : Nat) : Int) by omega, I64_nat _ (by omega)], by rw [byte128], Lib.hid (by rw [← HD.out, numL_big (n := m) (by omega)]; simp), M.tail⟩
      case measure =>
        rw [show ((m : Int) / 128) = ((m / 128 : Nat) : Int) by omega, I64_nat _ (by omega)]
        simp only [intOf]; omega
set_option maxHeartbeats 1000000 in
theorem Text12_c (t : List UInt8) (w : World) (ht : t.length ≤ 1000000000) :
    Calls Try.prog 66 #[.string (mkS t)] w fun e w' => e = .returned (.string (mkS (textL t))) ∧ Below w.heap.size w w' := by
  have M := Mem.start [] w
  have hn := numL_length_le t.length (by omega)
  go_enter Try.func66, Try.ntmps66
  go_wp2_with ((go_at_call 65; go_must (refine (Num12_c t.length _ (I64_nat _ (by omega)) _ (by omega)).mono ?_; rintro e w1 ⟨rfl, hb⟩; replace M := M.call hb; clear hb)))
  go_ret
  exact ⟨rfl, M.below⟩
section
variable (g : Nat) (x : RS) (w : World) (h : (Chunk.row g (irV x)).ok w)
include h
set_option maxRecDepth 100000 in
set_option maxHeartbeats 4000000 in
theorem InNum12_c (m : Nat) (a : Int) (ha : a = (m : Int)) (hx : x.rest.length ≤ 1000000000) :
    Calls Try.prog 58 #[.pointer (some ⟨g, 0, none⟩), .int .u64 a] w fun e w' => e = .returned (.int .u64 (x.num m).1) ∧ Upd w (.row g (irV x)) w' (.row g (irV (x.num m).2)) := by
  subst ha
  obtain ⟨s, er⟩ := x
  simp only at hx
  have M := Mem.start1 (c := .row g [.string (mkS s), .int .i64 (er : Nat)]) h
  by_cases h0 : er = 0
  · subst h0
    obtain ⟨N, eN⟩ : ∃ N, N = RS.num ⟨s, 0⟩ m := ⟨_, rfl⟩
    rw [← eN]
    have EN := Lib.hid eN; clear eN
    obtain ⟨L, eL⟩ : ∃ L, L = lead s := ⟨_, rfl⟩
    have hle : L ≤ s.length := by rw [eL]; exact lead_le s
    have EL := Lib.hid eL; clear eL
    go_enter Try.func58, Try.ntmps58
    go_wp2_with ((first | ((with_reducible refine tGuard ?_); first | refine w_strip rfl (by with_reducible rfl) ?_ | ((fail_if_success (refine w_lit false rfl (by with_reducible rfl) ?_)); (fail_if_success (refine w_lit true rfl (by with_reducible rfl) ?_)); refine w_case rfl ?_ ?_ <;> (intro hgd; rw [hgd]; try (exfalso; simp at hgd; omega)))) | ((with_reducible refine tConv _ 41 9 ?_); go_must (first | refine w_stringW M _ _ _ _ _ rfl rfl (by first | exact at0) rfl (by first | assumption | exact lenI | exact lenS ‹_› | rfl) (by decide) Try.underlying41 Try.underlying5 Try.underlying9 ?_ | refine w_string M _ _ _ _ _ rfl rfl (by first | exact at0) (by first | rfl | (simp; done) | assumption) rfl Try.underlying41 Try.underlying5 Try.underlying9 ?_)) | ((with_reducible refine tLoad ?_); go_must (refine w_at _ _ rfl (by exact ev_tmp rfl) ?_; intro hx; (first | refine w_load M _ _ _ rfl (by first | exact at0) hx rfl (by decide +kernel) (by exact rfl) ?_ | refine w_loadB M _ _ _ rfl (by first | exact at0) hx rfl (by decide +kernel) (by first | assumption | omega | (simp; omega)) ?_ | refine w_loadH M _ _ _ rfl (by first | exact at0) hx rfl (by decide +kernel) (by first | assumption | exact lenI | exact lenS ‹_› | rfl) (by decide +kernel) ?_ | refine w_loadR M _ _ _ rfl (by first | exact at0) hx rfl (by decide +kernel) (by kernel_rfl) ?_); clear hx)) | ((with_reducible refine tStore ?_); go_must (refine w_at2 _ _ _ rfl (by exact ev_tmp rfl) (by first | exact ev_tmp rfl | exact ev_const) ?_; intro hx hy; (first | refine w_storeB M _ _ _ _ rfl (by first | exact at0) hx rfl hy (by decide +kernel) (by first | assumption | omega | (simp; omega)) ?_ | refine w_storeH M _ _ _ _ rfl (by first | exact at0) hx rfl hy (by first | assumption | exact lenI | exact lenS ‹_› | rfl) (by decide +kernel) (by first | assumption | exact lenI | exact lenS ‹_› | rfl) ?_ | refine w_store M _ _ _ _ rfl (by first | exact at0) hx rfl hy rfl rfl (by decide +kernel) (by first | decide | simp | (simp; omega)) ?_ | refine w_storeR M _ _ _ _ rfl (by first | exact at0) hx rfl _ hy rfl (by kernel_rfl) (by simp [Value.oneCell']) (by first | rfl | assumption) ?_); clear hx hy M; intro w1 M; (try simp only [setC] at M))) | ((with_reducible refine tBox _ ?_); (refine w_box M _ _ rfl rfl _ rfl _ rfl ?_; clear M; intro g w1 M))) <;> (try conv => arg 5; simp only [Act.put, List.setIfInBounds_toArray, setC]))
    go_loopw [5, 6] (fun nv iv wr => ∃ k : Nat, k ≤ L ∧ k ≤ 9 ∧ iv = .int .i64 k ∧ nv = .int .u64 (numV (s.take k)) ∧ Mem (Chunk.row g [.string (mkS s), .int .i64 ((0 : Nat) : Int)]).fp w wr [.row g [.string (mkS s), .int .i64 ((0 : Nat) : Int)]]) (fun _ iv _ => 10 - (intOf iv).toNat)
    case atStart => exact ⟨0, by omega, by omega, rfl, rfl, M⟩
    case round =>
      clear M
      obtain ⟨k, hk, hk9, rfl, rfl, M⟩ := hrel
      have hk10 : (k : Int) < 10 := by omega
      by_cases hl : k = s.length
      · have e : N = (0, ⟨s, 7⟩) := by
          rw [EN.out]; unfold RS.num
          rw [readN_short s (by rw [← EL.out]; omega) (by rw [← EL.out]; omega)]; rfl
        subst e
        have hq : ((k : Int) == (s.length : Int)) = true := by simp; omega
        go_wp2_with ((first | ((with_reducible refine tGuard ?_); first | refine w_strip rfl (by with_reducible rfl) ?_ | ((fail_if_success (refine w_lit false rfl (by with_reducible rfl) ?_)); (fail_if_success (refine w_lit true rfl (by with_reducible rfl) ?_)); refine w_case rfl ?_ ?_ <;> (intro hgd; rw [hgd]; try (exfalso; simp at hgd; omega)))) | ((with_reducible refine tConv _ 41 9 ?_); go_must (first | refine w_stringW M _ _ _ _ _ rfl rfl (by first | exact at0) rfl (by first | assumption | exact lenI | exact lenS ‹_› | rfl) (by decide) Try.underlying41 Try.underlying5 Try.underlying9 ?_ | refine w_string M _ _ _ _ _ rfl rfl (by first | exact at0) (by first | rfl | (simp; done) | assumption) rfl Try.underlying41 Try.underlying5 Try.underlying9 ?_)) | ((with_reducible refine tLoad ?_); go_must (refine w_at _ _ rfl (by exact ev_tmp rfl) ?_; intro hx; (first | refine w_load M _ _ _ rfl (by first | exact at0) hx rfl (by decide +kernel) (by exact rfl) ?_ | refine w_loadB M _ _ _ rfl (by first | exact at0) hx rfl (by decide +kernel) (by first | assumption | omega | (simp; omega)) ?_ | refine w_loadH M _ _ _ rfl (by first | exact at0) hx rfl (by decide +kernel) (by first | assumption | exact lenI | exact lenS ‹_› | rfl) (by decide +kernel) ?_ | refine w_loadR M _ _ _ rfl (by first | exact at0) hx rfl (by decide +kernel) (by kernel_rfl) ?_); clear hx)) | ((with_reducible refine tStore ?_); go_must (refine w_at2 _ _ _ rfl (by exact ev_tmp rfl) (by first | exact ev_tmp rfl | exact ev_const) ?_; intro hx hy; (first | refine w_storeB M _ _ _ _ rfl (by first | exact at0) hx rfl hy (by decide +kernel) (by first | assumption | omega | (simp; omega)) ?_ | refine w_storeH M _ _ _ _ rfl (by first | exact at0) hx rfl hy (by first | assumption | exact lenI | exact lenS ‹_› | rfl) (by decide +kernel) (by first | assumption | exact lenI | exact lenS ‹_› | rfl) ?_ | refine w_store M _ _ _ _ rfl (by first | exact at0) hx rfl hy rfl rfl (by decide +kernel) (by first | decide | simp | (simp; omega)) ?_ | refine w_storeR M _ _ _ _ rfl (by first | exact at0) hx rfl _ hy rfl (by kernel_rfl) (by simp [Value.oneCell']) (by first | rfl | assumption) ?_); clear hx hy M; intro w1 M; (try simp only [setC] at M))) | ((with_reducible refine tBox _ ?_); (refine w_box M _ _ rfl rfl _ rfl _ rfl ?_; clear M; intro g w1 M))) <;> (try conv => arg 5; simp only [Act.put, List.setIfInBounds_toArray, setC]))
        go_ret
        exact ⟨rfl, M.upd1 0 rfl⟩
      · have hlt : k < s.length := by omega
        have hq : ((k : Int) == (s.length : Int)) = false := by simp; omega
        by_cases h9 : k = 9 ∧ 1 < (bt s k).toNat
        · obtain ⟨rfl, h9⟩ := h9
          have e : N = (0, ⟨s, 8⟩) := by
            rw [EN.out]; unfold RS.num
            have : readN s m = (0, 0, 8) := by
              by_cases hL : 10 ≤ lead s
              · exact readN_form s hL m
              · exact readN_ten s (by rw [← EL.out] at hL ⊢; omega) (by rw [← EL.out]; rw [← EL.out] at hL; omega) h9 m
            rw [this]; rfl
          subst e
          have hc : 1 < I8 (bt s 9) := by rw [I8_eq]; omega
          clear hk hk9
          go_wp2_with ((first | ((with_reducible refine tGuard ?_); first | refine w_strip rfl (by with_reducible rfl) ?_ | ((fail_if_success (refine w_lit false rfl (by with_reducible rfl) ?_)); (fail_if_success (refine w_lit true rfl (by with_reducible rfl) ?_)); refine w_case rfl ?_ ?_ <;> (intro hgd; rw [hgd]; try (exfalso; simp at hgd; omega)))) | ((with_reducible refine tConv _ 41 9 ?_); go_must (first | refine w_stringW M _ _ _ _ _ rfl rfl (by first | exact at0) rfl (by first | assumption | exact lenI | exact lenS ‹_› | rfl) (by decide) Try.underlying41 Try.underlying5 Try.underlying9 ?_ | refine w_string M _ _ _ _ _ rfl rfl (by first | exact at0) (by first | rfl | (simp; done) | assumption) rfl Try.underlying41 Try.underlying5 Try.underlying9 ?_)) | ((with_reducible refine tLoad ?_); go_must (refine w_at _ _ rfl (by exact ev_tmp rfl) ?_; intro hx; (first | refine w_load M _ _ _ rfl (by first | exact at0) hx rfl (by decide +kernel) (by exact rfl) ?_ | refine w_loadB M _ _ _ rfl (by first | exact at0) hx rfl (by decide +kernel) (by first | assumption | omega | (simp; omega)) ?_ | refine w_loadH M _ _ _ rfl (by first | exact at0) hx rfl (by decide +kernel) (by first | assumption | exact lenI | exact lenS ‹_› | rfl) (by decide +kernel) ?_ | refine w_loadR M _ _ _ rfl (by first | exact at0) hx rfl (by decide +kernel) (by kernel_rfl) ?_); clear hx)) | ((with_reducible refine tStore ?_); go_must (refine w_at2 _ _ _ rfl (by exact ev_tmp rfl) (by first | exact ev_tmp rfl | exact ev_const) ?_; intro hx hy; (first | refine w_storeB M _ _ _ _ rfl (by first | exact at0) hx rfl hy (by decide +kernel) (by first | assumption | omega | (simp; omega)) ?_ | refine w_storeH M _ _ _ _ rfl (by first | exact at0) hx rfl hy (by first | assumption | exact lenI | exact lenS ‹_› | rfl) (by decide +kernel) (by first | assumption | exact lenI | exact lenS ‹_› | rfl) ?_ | refine w_store M _ _ _ _ rfl (by first | exact at0) hx rfl hy rfl rfl (by decide +kernel) (by first | decide | simp | (simp; omega)) ?_ | refine w_storeR M _ _ _ _ rfl (by first | exact at0) hx rfl _ hy rfl (by kernel_rfl) (by simp [Value.oneCell']) (by first | rfl | assumption) ?_); clear hx hy M; intro w1 M; (try simp only [setC] at M))) | ((with_reducible refine tBox _ ?_); (refine w_box M _ _ rfl rfl _ rfl _ rfl ?_; clear M; intro g w1 M))) <;> (try conv => arg 5; simp only [Act.put, List.setIfInBounds_toArray, setC]))
          go_ret
          exact ⟨rfl, M.upd1 0 rfl⟩
        · have hk57 : numV (s.take k) + (bt s k).toNat % 128 * 128 ^ k < 18446744073709551616 := by
            have h1 := numV_take_lt s k (by omega)
            by_cases e9 : k = 9
            · subst e9
              have : (bt s 9).toNat % 128 * 128 ^ 9 ≤ 1 * 128 ^ 9 := Nat.mul_le_mul_right _ (by omega)
              omega
            · have h8 : 128 ^ k ≤ 128 ^ 8 := Nat.pow_le_pow_right (by omega) (by omega)
              have : (bt s k).toNat % 128 * 128 ^ k ≤ 127 * 128 ^ 8 := Nat.mul_le_mul (by omega) h8
              omega
          have h0b : 0 ≤ I8 (bt s k) := (I8_bd _).1
          have eV := numV_take s k hlt
          have E := or12 (numV (s.take k)) k (bt s k) (numV_take_lt s k (by omega)) hk57
          rw [show (bt s k).toNat = (s.getD k 0).toNat from rfl, ← eV] at E
          obtain ⟨A, eA⟩ : ∃ A, A = numV (s.take k) := ⟨_, rfl⟩
          obtain ⟨V, eV2⟩ : ∃ V, V = numV (s.take (k + 1)) := ⟨_, rfl⟩
          have hV : V < 18446744073709551616 := by rw [eV2, eV]; exact hk57
          rw [← eA, ← eV2] at E
          rw [← eA]
          have EV := Lib.hid eV2
          clear eA eV eV2 hk57
          by_cases h128 : (bt s k).toNat < 128
          · have hc : I8 (bt s k) < 128 := by rw [I8_eq]; omega
            have eL : lead s = k := lead_stop s k (by rw [← EL.out]; exact hk) h128
            have hc9 : k = 9 → (s.getD 9 0).toNat ≤ 1 := fun e => by
              subst e
              have : ¬ 1 < (bt s 9).toNat := fun h => h9 ⟨rfl, h⟩
              unfold bt at this; omega
            have HC9 : Hid (((k : Int) == 9) = true → I8 (bt s k) ≤ 1) := Lib.hid fun e => by
              have e9 : k = 9 := by have : (k : Int) = 9 := by simpa using e
                                    omega
              have := hc9 e9
              rw [I8_bt, e9]; omega
            have RZ : Hid (0 < k → (bt s k).toNat = 0 → N = (0, ⟨s, 8⟩)) := Lib.hid fun h1 h2 => by
              rw [EN.out]; unfold RS.num
              rw [readN_zero s (by omega) (by omega) (by omega) (by rw [eL]; exact h2)]; rfl
            have RV : Hid (¬ (0 < k ∧ (bt s k).toNat = 0) → N = if m < V then (0, ⟨s, 8⟩) else (V, ⟨s.drop (k + 1), 0⟩)) := Lib.hid fun h1 => by
              rw [EN.out]; unfold RS.num
              rw [readN_val s (by omega) (by omega) (by rw [eL]; exact hc9) (by rw [eL]; exact h1), eL, ← EV.out]
              by_cases hmV : m < V
              · rw [if_pos hmV, if_pos hmV]; rfl
              · rw [if_neg hmV, if_neg hmV]; rfl
            clear eL hc9 h9 EN EV EL hk hle
            by_cases hq9 : ((k : Int) == 9) = true
            have hc1 := HC9.out hq9
            rotate_left
            rw [Bool.not_eq_true] at hq9
            have hc1 : I8 (bt s k) < 128 := hc
            rotate_left
            all_goals
              clear HC9
              by_cases hz : 0 < k ∧ (bt s k).toNat = 0
              · obtain ⟨hz1, hz2⟩ := hz
                have e := RZ.out hz1 hz2
                have hz3 : (I8 (bt s k) == 0) = true := by rw [I8_eq, hz2]; rfl
                have hz1' : (0 : Int) < (k : Int) := by omega
                subst e
                clear RV RZ
                go_wp2_with ((first | ((with_reducible refine tGuard ?_); first | refine w_strip rfl (by with_reducible rfl) ?_ | ((fail_if_success (refine w_lit false rfl (by with_reducible rfl) ?_)); (fail_if_success (refine w_lit true rfl (by with_reducible rfl) ?_)); refine w_case rfl ?_ ?_ <;> (intro hgd; rw [hgd]; try (exfalso; simp at hgd; omega)))) | ((with_reducible refine tConv _ 41 9 ?_); go_must (first | refine w_stringW M _ _ _ _ _ rfl rfl (by first | exact at0) rfl (by first | assumption | exact lenI | exact lenS ‹_› | rfl) (by decide) Try.underlying41 Try.underlying5 Try.underlying9 ?_ | refine w_string M _ _ _ _ _ rfl rfl (by first | exact at0) (by first | rfl | (simp; done) | assumption) rfl Try.underlying41 Try.underlying5 Try.underlying9 ?_)) | ((with_reducible refine tLoad ?_); go_must (refine w_at _ _ rfl (by exact ev_tmp rfl) ?_; intro hx; (first | refine w_load M _ _ _ rfl (by first | exact at0) hx rfl (by decide +kernel) (by exact rfl) ?_ | refine w_loadB M _ _ _ rfl (by first | exact at0) hx rfl (by decide +kernel) (by first | assumption | omega | (simp; omega)) ?_ | refine w_loadH M _ _ _ rfl (by first | exact at0) hx rfl (by decide +kernel) (by first | assumption | exact lenI | exact lenS ‹_› | rfl) (by decide +kernel) ?_ | refine w_loadR M _ _ _ rfl (by first | exact at0) hx rfl (by decide +kernel) (by kernel_rfl) ?_); clear hx)) | ((with_reducible refine tStore ?_); go_must (refine w_at2 _ _ _ rfl (by exact ev_tmp rfl) (by first | exact ev_tmp rfl | exact ev_const) ?_; intro hx hy; (first | refine w_storeB M _ _ _ _ rfl (by first | exact at0) hx rfl hy (by decide +kernel) (by first | assumption | omega | (simp; omega)) ?_ | refine w_storeH M _ _ _ _ rfl (by first | exact at0) hx rfl hy (by first | assumption | exact lenI | exact lenS ‹_› | rfl) (by decide +kernel) (by first | assumption | exact lenI | exact lenS ‹_› | rfl) ?_ | refine w_store M _ _ _ _ rfl (by first | exact at0) hx rfl hy rfl rfl (by decide +kernel) (by first | decide | simp | (simp; omega)) ?_ | refine w_storeR M _ _ _ _ rfl (by first | exact at0) hx rfl _ hy rfl (by kernel_rfl) (by simp [Value.oneCell']) (by first | rfl | assumption) ?_); clear hx hy M; intro w1 M; (try simp only [setC] at M))) | ((with_reducible refine tBox _ ?_); (refine w_box M _ _ rfl rfl _ rfl _ rfl ?_; clear M; intro g w1 M))) <;> (try conv => arg 5; simp only [Act.put, List.setIfInBounds_toArray, setC]))
                go_ret
                exact ⟨rfl, M.upd1 0 rfl⟩
              · have e := RV.out hz
                have hz3 : ((I8 (bt s k) == 0) && decide ((0 : Int) < (k : Int))) = false := by
                  rw [Bool.and_eq_false_iff]
                  by_cases hk0 : 0 < k
                  · left; rw [beq_eq_false_iff_ne, I8_eq]; omega
                  · right; simp; omega
                by_cases hmV : m < V
                · rw [if_pos hmV] at e
                  subst e
                  have hmV' : (m : Int) < (V : Int) := by omega
                  clear RV RZ
                  by_cases hb0 : (I8 (bt s k) == 0) = true
                  all_goals
                    go_wp2_with ((first | ((with_reducible refine tGuard ?_); first | refine w_strip rfl (by with_reducible rfl) ?_ | ((fail_if_success (refine w_lit false rfl (by with_reducible rfl) ?_)); (fail_if_success (refine w_lit true rfl (by with_reducible rfl) ?_)); refine w_case rfl ?_ ?_ <;> (intro hgd; rw [hgd]; try (exfalso; simp at hgd; omega)))) | ((with_reducible refine tConv _ 41 9 ?_); go_must (first | refine w_stringW M _ _ _ _ _ rfl rfl (by first | exact at0) rfl (by first | assumption | exact lenI | exact lenS ‹_› | rfl) (by decide) Try.underlying41 Try.underlying5 Try.underlying9 ?_ | refine w_string M _ _ _ _ _ rfl rfl (by first | exact at0) (by first | rfl | (simp; done) | assumption) rfl Try.underlying41 Try.underlying5 Try.underlying9 ?_)) | ((with_reducible refine tLoad ?_); go_must (refine w_at _ _ rfl (by exact ev_tmp rfl) ?_; intro hx; (first | refine w_load M _ _ _ rfl (by first | exact at0) hx rfl (by decide +kernel) (by exact rfl) ?_ | refine w_loadB M _ _ _ rfl (by first | exact at0) hx rfl (by decide +kernel) (by first | assumption | omega | (simp; omega)) ?_ | refine w_loadH M _ _ _ rfl (by first | exact at0) hx rfl (by decide +kernel) (by first | assumption | exact lenI | exact lenS ‹_› | rfl) (by decide +kernel) ?_ | refine w_loadR M _ _ _ rfl (by first | exact at0) hx rfl (by decide +kernel) (by kernel_rfl) ?_); clear hx)) | ((with_reducible refine tStore ?_); go_must (refine w_at2 _ _ _ rfl (by exact ev_tmp rfl) (by first | exact ev_tmp rfl | exact ev_const) ?_; intro hx hy; (first | refine w_storeB M _ _ _ _ rfl (by first | exact at0) hx rfl hy (by decide +kernel) (by first | assumption | omega | (simp; omega)) ?_ | refine w_storeH M _ _ _ _ rfl (by first | exact at0) hx rfl hy (by first | assumption | exact lenI | exact lenS ‹_› | rfl) (by decide +kernel) (by first | assumption | exact lenI | exact lenS ‹_› | rfl) ?_ | refine w_store M _ _ _ _ rfl (by first | exact at0) hx rfl hy rfl rfl (by decide +kernel) (by first | decide | simp | (simp; omega)) ?_ | refine w_storeR M _ _ _ _ rfl (by first | exact at0) hx rfl _ hy rfl (by kernel_rfl) (by simp [Value.oneCell']) (by first | rfl | assumption) ?_); clear hx hy M; intro w1 M; (try simp only [setC] at M))) | ((with_reducible refine tBox _ ?_); (refine w_box M _ _ rfl rfl _ rfl _ rfl ?_; clear M; intro g w1 M))) <;> (try conv => arg 5; simp only [Act.put, List.setIfInBounds_toArray, setC]))
                    all_goals
                      go_ret
                      exact ⟨rfl, M.upd1 0 rfl⟩
                · rw [if_neg hmV] at e
                  subst e
                  have hmV' : (V : Int) ≤ (m : Int) := by omega
                  clear RV RZ
                  by_cases hb0 : (I8 (bt s k) == 0) = true
                  · have hkk : decide (0 < k) = false := by
                      rw [decide_eq_false_iff_not]
                      intro hk0
                      have h1 : I8 (bt s k) = 0 := by simpa using hb0
                      rw [I8_eq] at h1
                      exact hz ⟨hk0, by omega⟩
                    clear hz3
                    go_wp2_with ((first | ((with_reducible refine tGuard ?_); first | refine w_strip rfl (by with_reducible rfl) ?_ | ((fail_if_success (refine w_lit false rfl (by with_reducible rfl) ?_)); (fail_if_success (refine w_lit true rfl (by with_reducible rfl) ?_)); refine w_case rfl ?_ ?_ <;> (intro hgd; rw [hgd]; try (exfalso; simp at hgd; omega)))) | ((with_reducible refine tConv _ 41 9 ?_); go_must (first | refine w_stringW M _ _ _ _ _ rfl rfl (by first | exact at0) rfl (by first | assumption | exact lenI | exact lenS ‹_› | rfl) (by decide) Try.underlying41 Try.underlying5 Try.underlying9 ?_ | refine w_string M _ _ _ _ _ rfl rfl (by first | exact at0) (by first | rfl | (simp; done) | assumption) rfl Try.underlying41 Try.underlying5 Try.underlying9 ?_)) | ((with_reducible refine tLoad ?_); go_must (refine w_at _ _ rfl (by exact ev_tmp rfl) ?_; intro hx; (first | refine w_load M _ _ _ rfl (by first | exact at0) hx rfl (by decide +kernel) (by exact rfl) ?_ | refine w_loadB M _ _ _ rfl (by first | exact at0) hx rfl (by decide +kernel) (by first | assumption | omega | (simp; omega)) ?_ | refine w_loadH M _ _ _ rfl (by first | exact at0) hx rfl (by decide +kernel) (by first | assumption | exact lenI | exact lenS ‹_› | rfl) (by decide +kernel) ?_ | refine w_loadR M _ _ _ rfl (by first | exact at0) hx rfl (by decide +kernel) (by kernel_rfl) ?_); clear hx)) | ((with_reducible refine tStore ?_); go_must (refine w_at2 _ _ _ rfl (by exact ev_tmp rfl) (by first | exact ev_tmp rfl | exact ev_const) ?_; intro hx hy; (first | refine w_storeB M _ _ _ _ rfl (by first | exact at0) hx rfl hy (by decide +kernel) (by first | assumption | omega | (simp; omega)) ?_ | refine w_storeH M _ _ _ _ rfl (by first | exact at0) hx rfl hy (by first | assumption | exact lenI | exact lenS ‹_› | rfl) (by decide +kernel) (by first | assumption | exact lenI | exact lenS ‹_› | rfl) ?_ | refine w_store M _ _ _ _ rfl (by first | exact at0) hx rfl hy rfl rfl (by decide +kernel) (by first | decide | simp | (simp; omega)) ?_ | refine w_storeR M _ _ _ _ rfl (by first | exact at0) hx rfl _ hy rfl (by kernel_rfl) (by simp [Value.oneCell']) (by first | rfl | assumption) ?_); clear hx hy M; intro w1 M; (try simp only [setC] at M))) | ((with_reducible refine tBox _ ?_); (refine w_box M _ _ rfl rfl _ rfl _ rfl ?_; clear M; intro g w1 M))) <;> (try conv => arg 5; simp only [Act.put, List.setIfInBounds_toArray, setC]))
                    go_ret
                    refine ⟨rfl, ?_⟩
                    have U := M.upd1 0 rfl
                    simpa [irV] using U
                  · rw [Bool.not_eq_true] at hb0
                    clear hz3
                    go_wp2_with ((first | ((with_reducible refine tGuard ?_); first | refine w_strip rfl (by with_reducible rfl) ?_ | ((fail_if_success (refine w_lit false rfl (by with_reducible rfl) ?_)); (fail_if_success (refine w_lit true rfl (by with_reducible rfl) ?_)); refine w_case rfl ?_ ?_ <;> (intro hgd; rw [hgd]; try (exfalso; simp at hgd; omega)))) | ((with_reducible refine tConv _ 41 9 ?_); go_must (first | refine w_stringW M _ _ _ _ _ rfl rfl (by first | exact at0) rfl (by first | assumption | exact lenI | exact lenS ‹_› | rfl) (by decide) Try.underlying41 Try.underlying5 Try.underlying9 ?_ | refine w_string M _ _ _ _ _ rfl rfl (by first | exact at0) (by first | rfl | (simp; done) | assumption) rfl Try.underlying41 Try.underlying5 Try.underlying9 ?_)) | ((with_reducible refine tLoad ?_); go_must (refine w_at _ _ rfl (by exact ev_tmp rfl) ?_; intro hx; (first | refine w_load M _ _ _ rfl (by first | exact at0) hx rfl (by decide +kernel) (by exact rfl) ?_ | refine w_loadB M _ _ _ rfl (by first | exact at0) hx rfl (by decide +kernel) (by first | assumption | omega | (simp; omega)) ?_ | refine w_loadH M _ _ _ rfl (by first | exact at0) hx rfl (by decide +kernel) (by first | assumption | exact lenI | exact lenS ‹_› | rfl) (by decide +kernel) ?_ | refine w_loadR M _ _ _ rfl (by first | exact at0) hx rfl (by decide +kernel) (by kernel_rfl) ?_); clear hx)) | ((with_reducible refine tStore ?_); go_must (refine w_at2 _ _ _ rfl (by exact ev_tmp rfl) (by first | exact ev_tmp rfl | exact ev_const) ?_; intro hx hy; (first | refine w_storeB M _ _ _ _ rfl (by first | exact at0) hx rfl hy (by decide +kernel) (by first | assumption | omega | (simp; omega)) ?_ | refine w_storeH M _ _ _ _ rfl (by first | exact at0) hx rfl hy (by first | assumption | exact lenI | exact lenS ‹_› | rfl) (by decide +kernel) (by first | assumption | exact lenI | exact lenS ‹_› | rfl) ?_ | refine w_store M _ _ _ _ rfl (by first | exact at0) hx rfl hy rfl rfl (by decide +kernel) (by first | decide | simp | (simp; omega)) ?_ | refine w_storeR M _ _ _ _ rfl (by first | exact at0) hx rfl _ hy rfl (by kernel_rfl) (by simp [Value.oneCell']) (by first | rfl | assumption) ?_); clear hx hy M; intro w1 M; (try simp only [setC] at M))) | ((with_reducible refine tBox _ ?_); (refine w_box M _ _ rfl rfl _ rfl _ rfl ?_; clear M; intro g w1 M))) <;> (try conv => arg 5; simp only [Act.put, List.setIfInBounds_toArray, setC]))
                    go_ret
                    refine ⟨rfl, ?_⟩
                    have U := M.upd1 0 rfl
                    simpa [irV] using U
          · have hk8 : k ≠ 9 := fun e => h9 ⟨e, by omega⟩
            have hq9 : ((k : Int) == 9) = false := by simp; omega
            have hc : 128 ≤ I8 (bt s k) := by rw [I8_eq]; omega
            have hkL : k < L := by
              have hne : lead s ≠ k := fun e => by
                have := lead_last s (by rw [e]; exact hlt)
                rw [e] at this
                exact h128 this
              rw [← EL.out] at hne
              omega
            go_wp2_with ((first | ((with_reducible refine tGuard ?_); first | refine w_strip rfl (by with_reducible rfl) ?_ | ((fail_if_success (refine w_lit false rfl (by with_reducible rfl) ?_)); (fail_if_success (refine w_lit true rfl (by with_reducible rfl) ?_)); refine w_case rfl ?_ ?_ <;> (intro hgd; rw [hgd]; try (exfalso; simp at hgd; omega)))) | ((with_reducible refine tConv _ 41 9 ?_); go_must (first | refine w_stringW M _ _ _ _ _ rfl rfl (by first | exact at0) rfl (by first | assumption | exact lenI | exact lenS ‹_› | rfl) (by decide) Try.underlying41 Try.underlying5 Try.underlying9 ?_ | refine w_string M _ _ _ _ _ rfl rfl (by first | exact at0) (by first | rfl | (simp; done) | assumption) rfl Try.underlying41 Try.underlying5 Try.underlying9 ?_)) | ((with_reducible refine tLoad ?_); go_must (refine w_at _ _ rfl (by exact ev_tmp rfl) ?_; intro hx; (first | refine w_load M _ _ _ rfl (by first | exact at0) hx rfl (by decide +kernel) (by exact rfl) ?_ | refine w_loadB M _ _ _ rfl (by first | exact at0) hx rfl (by decide +kernel) (by first | assumption | omega | (simp; omega)) ?_ | refine w_loadH M _ _ _ rfl (by first | exact at0) hx rfl (by decide +kernel) (by first | assumption | exact lenI | exact lenS ‹_› | rfl) (by decide +kernel) ?_ | refine w_loadR M _ _ _ rfl (by first | exact at0) hx rfl (by decide +kernel) (by kernel_rfl) ?_); clear hx)) | ((with_reducible refine tStore ?_); go_must (refine w_at2 _ _ _ rfl (by exact ev_tmp rfl) (by first | exact ev_tmp rfl | exact ev_const) ?_; intro hx hy; (first | refine w_storeB M _ _ _ _ rfl (by first | exact at0) hx rfl hy (by decide +kernel) (by first | assumption | omega | (simp; omega)) ?_ | refine w_storeH M _ _ _ _ rfl (by first | exact at0) hx rfl hy (by first | assumption | exact lenI | exact lenS ‹_› | rfl) (by decide +kernel) (by first | assumption | exact lenI | exact lenS ‹_› | rfl) ?_ | refine w_store M _ _ _ _ rfl (by first | exact at0) hx rfl hy rfl rfl (by decide +kernel) (by first | decide | simp | (simp; omega)) ?_ | refine w_storeR M _ _ _ _ rfl (by first | exact at0) hx rfl _ hy rfl (by kernel_rfl) (by simp [Value.oneCell']) (by first | rfl | assumption) ?_); clear hx hy M; intro w1 M; (try simp only [setC] at M))) | ((with_reducible refine tBox _ ?_); (refine w_box M _ _ rfl rfl _ rfl _ rfl ?_; clear M; intro g w1 M))) <;> (try conv => arg 5; simp only [Act.put, List.setIfInBounds_toArray, setC]))
            go_roundw
            case rel => exact ⟨k + 1, by omega, by omega, by go_num, by rw [← EV.out], M⟩
            case measure => simp [intOf]; omega
  · have e : RS.num ⟨s, er⟩ m = (0, ⟨s, er⟩) := by unfold RS.num; rw [if_neg h0]
    rw [e]
    have hz : ((er : Int) == 0) = false := by simp; exact h0
    have hz' : ((er : Int) != 0) = true := by simp; exact h0
    clear e
    go_enter Try.func58, Try.ntmps58
    go_wp2_with ((first | ((with_reducible refine tGuard ?_); first | refine w_strip rfl (by with_reducible rfl) ?_ | ((fail_if_success (refine w_lit false rfl (by with_reducible rfl) ?_)); (fail_if_success (refine w_lit true rfl (by with_reducible rfl) ?_)); refine w_case rfl ?_ ?_ <;> (intro hgd; rw [hgd]; try (exfalso; simp at hgd; omega)))) | ((with_reducible refine tConv _ 41 9 ?_); go_must (first | refine w_stringW M _ _ _ _ _ rfl rfl (by first | exact at0) rfl (by first | assumption | exact lenI | exact lenS ‹_› | rfl) (by decide) Try.underlying41 Try.underlying5 Try.underlying9 ?_ | refine w_string M _ _ _ _ _ rfl rfl (by first | exact at0) (by first | rfl | (simp; done) | assumption) rfl Try.underlying41 Try.underlying5 Try.underlying9 ?_)) | ((with_reducible refine tLoad ?_); go_must (refine w_at _ _ rfl (by exact ev_tmp rfl) ?_; intro hx; (first | refine w_load M _ _ _ rfl (by first | exact at0) hx rfl (by decide +kernel) (by exact rfl) ?_ | refine w_loadB M _ _ _ rfl (by first | exact at0) hx rfl (by decide +kernel) (by first | assumption | omega | (simp; omega)) ?_ | refine w_loadH M _ _ _ rfl (by first | exact at0) hx rfl (by decide +kernel) (by first | assumption | exact lenI | exact lenS ‹_› | rfl) (by decide +kernel) ?_ | refine w_loadR M _ _ _ rfl (by first | exact at0) hx rfl (by decide +kernel) (by kernel_rfl) ?_); clear hx)) | ((with_reducible refine tStore ?_); go_must (refine w_at2 _ _ _ rfl (by exact ev_tmp rfl) (by first | exact ev_tmp rfl | exact ev_const) ?_; intro hx hy; (first | refine w_storeB M _ _ _ _ rfl (by first | exact at0) hx rfl hy (by decide +kernel) (by first | assumption | omega | (simp; omega)) ?_ | refine w_storeH M _ _ _ _ rfl (by first | exact at0) hx rfl hy (by first | assumption | exact lenI | exact lenS ‹_› | rfl) (by decide +kernel) (by first | assumption | exact lenI | exact lenS ‹_› | rfl) ?_ | refine w_store M _ _ _ _ rfl (by first | exact at0) hx rfl hy rfl rfl (by decide +kernel) (by first | decide | simp | (simp; omega)) ?_ | refine w_storeR M _ _ _ _ rfl (by first | exact at0) hx rfl _ hy rfl (by kernel_rfl) (by simp [Value.oneCell']) (by first | rfl | assumption) ?_); clear hx hy M; intro w1 M; (try simp only [setC] at M))) | ((with_reducible refine tBox _ ?_); (refine w_box M _ _ rfl rfl _ rfl _ rfl ?_; clear M; intro g w1 M))) <;> (try conv => arg 5; simp only [Act.put, List.setIfInBounds_toArray, setC]))
    go_ret
    exact ⟨rfl, M.upd1 0 rfl⟩
end
end Go.Proofs.Ytoaabclemeibhaa

/- The walk of the reference's reader of texts (layer 12). Conditions: lengths. -/
namespace Go
namespace TL
theorem RS.num_len (x : RS) (m : Nat) : (x.num m).2.rest.length ≤ x.rest.length := by
  unfold RS.num
  split
  · simp only; split
    · simp
    · exact Nat.le_refl _
  · exact Nat.le_refl _
theorem RS.num_le (x : RS) (m : Nat) : (x.num m).1 ≤ m := by
  unfold RS.num
  split
  · exact (read_le (s := x.rest) (most := m) rfl).2.2
  · exact Nat.zero_le _
end TL
end Go
namespace Go.Proofs.Ytoaabclemeibhaa
open Go.RowKit Go.TL
section
variable (g : Nat) (x : RS) (w : World) (h : (Chunk.row g (irV x)).ok w)
include h
set_option maxRecDepth 100000 in
set_option maxHeartbeats 4000000 in
theorem InText12_c (m : Nat) (a : Int) (ha : a = (m : Int)) (hx : x.rest.length ≤ 1000000000) :
    Calls Try.prog 60 #[.pointer (some ⟨g, 0, none⟩), .int .u64 a] w fun e w' => e = .returned (.string (mkS (x.text m).1)) ∧ Upd w (.row g (irV x)) w' (.row g (irV (x.text m).2)) := by
  subst ha
  have M := Mem.start1 h
  have N := InNum12_c g x w h m _ rfl hx
  have hn := RS.num_le x m
  have hl := RS.num_len x m
  unfold RS.text
  obtain ⟨⟨n, y⟩, eN⟩ : ∃ N, N = x.num m := ⟨_, rfl⟩
  rw [← eN] at N hn hl ⊢
  simp only at N hn hl ⊢
  have N := Lib.hid N
  clear eN
  obtain ⟨s, er⟩ := y
  simp only at hl ⊢
  by_cases h0 : er = 0
  · subst h0
    rw [if_pos rfl]
    have EL := Lib.hid (I64_nat s.length (by omega))
    by_cases hq : n ≤ s.length
    · rw [if_pos hq]
      have hq' : (n : Int) ≤ (s.length : Int) := by omega
      go_enter Try.func60, Try.ntmps60
      go_wp2_with ((first | (go_at_call 58; go_must (refine (N.out).mono ?_; rintro e w1 ⟨rfl, U⟩; replace M := M.upd 0 rfl U; clear U; simp only [List.set_cons_zero, irV] at M)) | ((with_reducible refine tGuard ?_); first | refine w_strip rfl (by with_reducible rfl) ?_ | ((fail_if_success (refine w_lit false rfl (by with_reducible rfl) ?_)); (fail_if_success (refine w_lit true rfl (by with_reducible rfl) ?_)); refine w_case rfl ?_ ?_ <;> (intro hgd; rw [hgd]; try (exfalso; simp at hgd; omega)))) | ((with_reducible refine tConv _ 41 9 ?_); go_must (first | refine w_stringW M _ _ _ _ _ rfl rfl (by first | exact at0) rfl (by first | assumption | exact lenI | exact lenS ‹_› | rfl) (by decide) Try.underlying41 Try.underlying5 Try.underlying9 ?_ | refine w_string M _ _ _ _ _ rfl rfl (by first | exact at0) (by first | rfl | (simp; done) | assumption) rfl Try.underlying41 Try.underlying5 Try.underlying9 ?_)) | ((with_reducible refine tLoad ?_); go_must (refine w_at _ _ rfl (by exact ev_tmp rfl) ?_; intro hx; (first | refine w_load M _ _ _ rfl (by first | exact at0) hx rfl (by decide +kernel) (by exact rfl) ?_ | refine w_loadB M _ _ _ rfl (by first | exact at0) hx rfl (by decide +kernel) (by first | assumption | omega | (simp; omega)) ?_ | refine w_loadH M _ _ _ rfl (by first | exact at0) hx rfl (by decide +kernel) (by first | assumption | exact lenI | exact lenS ‹_› | rfl) (by decide +kernel) ?_ | refine w_loadR M _ _ _ rfl (by first | exact at0) hx rfl (by decide +kernel) (by kernel_rfl) ?_); clear hx)) | ((with_reducible refine tStore ?_); go_must (refine w_at2 _ _ _ rfl (by exact ev_tmp rfl) (by first | exact ev_tmp rfl | exact ev_const) ?_; intro hx hy; (first | refine w_storeB M _ _ _ _ rfl (by first | exact at0) hx rfl hy (by decide +kernel) (by first | assumption | omega | (simp; omega)) ?_ | refine w_storeH M _ _ _ _ rfl (by first | exact at0) hx rfl hy (by first | assumption | exact lenI | exact lenS ‹_› | rfl) (by decide +kernel) (by first | assumption | exact lenI | exact lenS ‹_› | rfl) ?_ | refine w_store M _ _ _ _ rfl (by first | exact at0) hx rfl hy rfl rfl (by decide +kernel) (by first | decide | simp | (simp; omega)) ?_ | refine w_storeR M _ _ _ _ rfl (by first | exact at0) hx rfl _ hy rfl (by kernel_rfl) (by simp [Value.oneCell']) (by first | rfl | assumption) ?_); clear hx hy M; intro w1 M; (try simp only [setC] at M))) | ((with_reducible refine tBox _ ?_); (refine w_box M _ _ rfl rfl _ rfl _ rfl ?_; clear M; intro g w1 M))) <;> (try conv => arg 5; simp only [Act.put, List.setIfInBounds_toArray, setC]))
      all_goals (first | (exfalso; have := EL.out; omega) | (go_ret; exact ⟨rfl, M.upd1 0 rfl⟩))
    · rw [if_neg hq]
      have hq' : (s.length : Int) < (n : Int) := by omega
      go_enter Try.func60, Try.ntmps60
      go_wp2_with ((first | (go_at_call 58; go_must (refine (N.out).mono ?_; rintro e w1 ⟨rfl, U⟩; replace M := M.upd 0 rfl U; clear U; simp only [List.set_cons_zero, irV] at M)) | ((with_reducible refine tGuard ?_); first | refine w_strip rfl (by with_reducible rfl) ?_ | ((fail_if_success (refine w_lit false rfl (by with_reducible rfl) ?_)); (fail_if_success (refine w_lit true rfl (by with_reducible rfl) ?_)); refine w_case rfl ?_ ?_ <;> (intro hgd; rw [hgd]; try (exfalso; simp at hgd; omega)))) | ((with_reducible refine tConv _ 41 9 ?_); go_must (first | refine w_stringW M _ _ _ _ _ rfl rfl (by first | exact at0) rfl (by first | assumption | exact lenI | exact lenS ‹_› | rfl) (by decide) Try.underlying41 Try.underlying5 Try.underlying9 ?_ | refine w_string M _ _ _ _ _ rfl rfl (by first | exact at0) (by first | rfl | (simp; done) | assumption) rfl Try.underlying41 Try.underlying5 Try.underlying9 ?_)) | ((with_reducible refine tLoad ?_); go_must (refine w_at _ _ rfl (by exact ev_tmp rfl) ?_; intro hx; (first | refine w_load M _ _ _ rfl (by first | exact at0) hx rfl (by decide +kernel) (by exact rfl) ?_ | refine w_loadB M _ _ _ rfl (by first | exact at0) hx rfl (by decide +kernel) (by first | assumption | omega | (simp; omega)) ?_ | refine w_loadH M _ _ _ rfl (by first | exact at0) hx rfl (by decide +kernel) (by first | assumption | exact lenI | exact lenS ‹_› | rfl) (by decide +kernel) ?_ | refine w_loadR M _ _ _ rfl (by first | exact at0) hx rfl (by decide +kernel) (by kernel_rfl) ?_); clear hx)) | ((with_reducible refine tStore ?_); go_must (refine w_at2 _ _ _ rfl (by exact ev_tmp rfl) (by first | exact ev_tmp rfl | exact ev_const) ?_; intro hx hy; (first | refine w_storeB M _ _ _ _ rfl (by first | exact at0) hx rfl hy (by decide +kernel) (by first | assumption | omega | (simp; omega)) ?_ | refine w_storeH M _ _ _ _ rfl (by first | exact at0) hx rfl hy (by first | assumption | exact lenI | exact lenS ‹_› | rfl) (by decide +kernel) (by first | assumption | exact lenI | exact lenS ‹_› | rfl) ?_ | refine w_store M _ _ _ _ rfl (by first | exact at0) hx rfl hy rfl rfl (by decide +kernel) (by first | decide | simp | (simp; omega)) ?_ | refine w_storeR M _ _ _ _ rfl (by first | exact at0) hx rfl _ hy rfl (by kernel_rfl) (by simp [Value.oneCell']) (by first | rfl | assumption) ?_); clear hx hy M; intro w1 M; (try simp only [setC] at M))) | ((with_reducible refine tBox _ ?_); (refine w_box M _ _ rfl rfl _ rfl _ rfl ?_; clear M; intro g w1 M))) <;> (try conv => arg 5; simp only [Act.put, List.setIfInBounds_toArray, setC]))
      all_goals (first | (exfalso; have := EL.out; omega) | (go_ret; exact ⟨rfl, M.upd1 0 rfl⟩))
  · rw [if_neg h0]
    have hz : ((er : Int) == 0) = false := by simp; exact h0
    have hz' : ((er : Int) != 0) = true := by simp; exact h0
    go_enter Try.func60, Try.ntmps60
    go_wp2_with ((first | (go_at_call 58; go_must (refine (N.out).mono ?_; rintro e w1 ⟨rfl, U⟩; replace M := M.upd 0 rfl U; clear U; simp only [List.set_cons_zero, irV] at M)) | ((with_reducible refine tGuard ?_); first | refine w_strip rfl (by with_reducible rfl) ?_ | ((fail_if_success (refine w_lit false rfl (by with_reducible rfl) ?_)); (fail_if_success (refine w_lit true rfl (by with_reducible rfl) ?_)); refine w_case rfl ?_ ?_ <;> (intro hgd; rw [hgd]; try (exfalso; simp at hgd; omega)))) | ((with_reducible refine tConv _ 41 9 ?_); go_must (first | refine w_stringW M _ _ _ _ _ rfl rfl (by first | exact at0) rfl (by first | assumption | exact lenI | exact lenS ‹_› | rfl) (by decide) Try.underlying41 Try.underlying5 Try.underlying9 ?_ | refine w_string M _ _ _ _ _ rfl rfl (by first | exact at0) (by first | rfl | (simp; done) | assumption) rfl Try.underlying41 Try.underlying5 Try.underlying9 ?_)) | ((with_reducible refine tLoad ?_); go_must (refine w_at _ _ rfl (by exact ev_tmp rfl) ?_; intro hx; (first | refine w_load M _ _ _ rfl (by first | exact at0) hx rfl (by decide +kernel) (by exact rfl) ?_ | refine w_loadB M _ _ _ rfl (by first | exact at0) hx rfl (by decide +kernel) (by first | assumption | omega | (simp; omega)) ?_ | refine w_loadH M _ _ _ rfl (by first | exact at0) hx rfl (by decide +kernel) (by first | assumption | exact lenI | exact lenS ‹_› | rfl) (by decide +kernel) ?_ | refine w_loadR M _ _ _ rfl (by first | exact at0) hx rfl (by decide +kernel) (by kernel_rfl) ?_); clear hx)) | ((with_reducible refine tStore ?_); go_must (refine w_at2 _ _ _ rfl (by exact ev_tmp rfl) (by first | exact ev_tmp rfl | exact ev_const) ?_; intro hx hy; (first | refine w_storeB M _ _ _ _ rfl (by first | exact at0) hx rfl hy (by decide +kernel) (by first | assumption | omega | (simp; omega)) ?_ | refine w_storeH M _ _ _ _ rfl (by first | exact at0) hx rfl hy (by first | assumption | exact lenI | exact lenS ‹_› | rfl) (by decide +kernel) (by first | assumption | exact lenI | exact lenS ‹_› | rfl) ?_ | refine w_store M _ _ _ _ rfl (by first | exact at0) hx rfl hy rfl rfl (by decide +kernel) (by first | decide | simp | (simp; omega)) ?_ | refine w_storeR M _ _ _ _ rfl (by first | exact at0) hx rfl _ hy rfl (by kernel_rfl) (by simp [Value.oneCell']) (by first | rfl | assumption) ?_); clear hx hy M; intro w1 M; (try simp only [setC] at M))) | ((with_reducible refine tBox _ ?_); (refine w_box M _ _ rfl rfl _ rfl _ rfl ?_; clear M; intro g w1 M))) <;> (try conv => arg 5; simp only [Act.put, List.setIfInBounds_toArray, setC]))
    go_ret
    exact ⟨rfl, M.upd1 0 rfl⟩
end
end Go.Proofs.Ytoaabclemeibhaa

/- The walks of pack.In.Byte, pack.Out.Byte and the reference's In.Byte. Conditions: lengths. -/
namespace Go
namespace TL
def RS.byte (x : RS) : Nat × RS := if x.err = 0 then (match x.rest with | [] => (0, ⟨[], 7⟩) | b :: r => (b.toNat, ⟨r, 0⟩)) else (0, x)
theorem Alike.byte {x : InS} {y : RS} (h : Alike x y) : x.byte.1 = y.byte.1 ∧ Alike x.byte.2 y.byte.2 := by
  obtain ⟨h1, h2⟩ := h
  unfold InS.byte RS.byte
  by_cases h0 : x.err = 0
  · rw [if_pos h0, if_pos (h1 ▸ h0), h2 h0]
    cases e : y.rest with
    | nil => simp only []; unfold InS.take; rw [if_neg (by decide)]; exact ⟨trivial, rfl, fun h => by cases h⟩
    | cons b r => simp only []; unfold InS.take; rw [if_pos rfl]; exact ⟨trivial, rfl, fun _ => by simp only [h2 h0, e]; rfl⟩
  · rw [if_neg h0, if_neg (h1 ▸ h0)]
    exact ⟨rfl, h1, fun h => absurd h h0⟩
end TL
end Go
namespace Go.Proofs.Ytoaabclemeibhaa
open Go.RowKit Go.TL
section
variable (g : Nat) (x : InS) (w : World) (h : (Chunk.row g (inV x)).ok w)
include h
set_option maxRecDepth 100000 in
set_option maxHeartbeats 2000000 in
theorem In_Byte_c (hf : x.fit) :
    Calls Try.prog 22 #[.pointer (some ⟨g, 0, none⟩)] w fun e w' => e = .returned (.int .u8 x.byte.1) ∧ Upd w (.row g (inV x)) w' (.row g (inV x.byte.2)) := by
  obtain ⟨rest, read, err⟩ := x
  have M := Mem.start1 (c := .row g [.string (mkS rest), .int .i64 (read : Nat), .int .i64 (err : Nat)]) h
  by_cases h0 : err = 0
  · subst h0
    cases rest with
    | nil =>
      go_enter Try.func22, Try.ntmps22
      go_wp2_with ((first | (go_at_call 39; go_must (refine (reads_ok g _ _ h rfl).mono ?_; rintro e w1 ⟨rfl, rfl⟩)) | ((with_reducible refine tGuard ?_); refine w_strip rfl (by with_reducible rfl) ?_) | ((with_reducible refine tConv _ 41 9 ?_); go_must (first | refine w_stringW M _ _ _ _ _ rfl rfl (by first | exact at0) rfl (by first | assumption | exact lenI | exact lenS ‹_› | rfl) (by decide) Try.underlying41 Try.underlying5 Try.underlying9 ?_ | refine w_string M _ _ _ _ _ rfl rfl (by first | exact at0) (by first | rfl | (simp; done) | assumption) rfl Try.underlying41 Try.underlying5 Try.underlying9 ?_)) | ((with_reducible refine tLoad ?_); go_must (refine w_at _ _ rfl (by exact ev_tmp rfl) ?_; intro hx; (first | refine w_load M _ _ _ rfl (by first | exact at0) hx rfl (by decide +kernel) (by exact rfl) ?_ | refine w_loadB M _ _ _ rfl (by first | exact at0) hx rfl (by decide +kernel) (by first | assumption | omega | (simp; omega)) ?_ | refine w_loadH M _ _ _ rfl (by first | exact at0) hx rfl (by decide +kernel) (by first | assumption | exact lenI | exact lenS ‹_› | rfl) (by decide +kernel) ?_ | refine w_loadR M _ _ _ rfl (by first | exact at0) hx rfl (by decide +kernel) (by kernel_rfl) ?_); clear hx)) | ((with_reducible refine tStore ?_); go_must (refine w_at2 _ _ _ rfl (by exact ev_tmp rfl) (by first | exact ev_tmp rfl | exact ev_const) ?_; intro hx hy; (first | refine w_storeB M _ _ _ _ rfl (by first | exact at0) hx rfl hy (by decide +kernel) (by first | assumption | omega | (simp; omega)) ?_ | refine w_storeH M _ _ _ _ rfl (by first | exact at0) hx rfl hy (by first | assumption | exact lenI | exact lenS ‹_› | rfl) (by decide +kernel) (by first | assumption | exact lenI | exact lenS ‹_› | rfl) ?_ | refine w_store M _ _ _ _ rfl (by first | exact at0) hx rfl hy rfl rfl (by decide +kernel) (by first | decide | simp | (simp; omega)) ?_ | refine w_storeR M _ _ _ _ rfl (by first | exact at0) hx rfl _ hy rfl (by kernel_rfl) (by simp [Value.oneCell']) (by first | rfl | assumption) ?_); clear hx hy M; intro w1 M; (try simp only [setC] at M))) | ((with_reducible refine tBox _ ?_); (refine w_box M _ _ rfl rfl _ rfl _ rfl ?_; clear M; intro g w1 M))) <;> (try conv => arg 5; simp only [Act.put, List.setIfInBounds_toArray, setC]))
      go_ret
      exact ⟨rfl, M.upd1 0 rfl⟩
    | cons b r =>
      have hb : ((b.toNat : Nat) : Int) = I8 b := (I8_eq b).symm
      have e : InS.byte ⟨b :: r, read, 0⟩ = (b.toNat, InS.take ⟨b :: r, read, 0⟩ 1 0) := rfl
      rw [e]; simp only [hb]; clear e hb
      go_enter Try.func22, Try.ntmps22
      go_wp2_with ((first | (go_at_call 39; go_must (refine (reads_ok g _ _ h rfl).mono ?_; rintro e w1 ⟨rfl, rfl⟩)) | (go_at_call 40; go_must (refine (takes_ok g _ _ (M.ok 0 _ rfl) hf 1 (by simp) _ _ rfl rfl).mono ?_; rintro e w1 ⟨rfl, U⟩; replace M := M.upd 0 rfl U; clear U)) | ((with_reducible refine tGuard ?_); refine w_strip rfl (by with_reducible rfl) ?_) | ((with_reducible refine tConv _ 41 9 ?_); go_must (first | refine w_stringW M _ _ _ _ _ rfl rfl (by first | exact at0) rfl (by first | assumption | exact lenI | exact lenS ‹_› | rfl) (by decide) Try.underlying41 Try.underlying5 Try.underlying9 ?_ | refine w_string M _ _ _ _ _ rfl rfl (by first | exact at0) (by first | rfl | (simp; done) | assumption) rfl Try.underlying41 Try.underlying5 Try.underlying9 ?_)) | ((with_reducible refine tLoad ?_); go_must (refine w_at _ _ rfl (by exact ev_tmp rfl) ?_; intro hx; (first | refine w_load M _ _ _ rfl (by first | exact at0) hx rfl (by decide +kernel) (by exact rfl) ?_ | refine w_loadB M _ _ _ rfl (by first | exact at0) hx rfl (by decide +kernel) (by first | assumption | omega | (simp; omega)) ?_ | refine w_loadH M _ _ _ rfl (by first | exact at0) hx rfl (by decide +kernel) (by first | assumption | exact lenI | exact lenS ‹_› | rfl) (by decide +kernel) ?_ | refine w_loadR M _ _ _ rfl (by first | exact at0) hx rfl (by decide +kernel) (by kernel_rfl) ?_); clear hx)) | ((with_reducible refine tStore ?_); go_must (refine w_at2 _ _ _ rfl (by exact ev_tmp rfl) (by first | exact ev_tmp rfl | exact ev_const) ?_; intro hx hy; (first | refine w_storeB M _ _ _ _ rfl (by first | exact at0) hx rfl hy (by decide +kernel) (by first | assumption | omega | (simp; omega)) ?_ | refine w_storeH M _ _ _ _ rfl (by first | exact at0) hx rfl hy (by first | assumption | exact lenI | exact lenS ‹_› | rfl) (by decide +kernel) (by first | assumption | exact lenI | exact lenS ‹_› | rfl) ?_ | refine w_store M _ _ _ _ rfl (by first | exact at0) hx rfl hy rfl rfl (by decide +kernel) (by first | decide | simp | (simp; omega)) ?_ | refine w_storeR M _ _ _ _ rfl (by first | exact at0) hx rfl _ hy rfl (by kernel_rfl) (by simp [Value.oneCell']) (by first | rfl | assumption) ?_); clear hx hy M; intro w1 M; (try simp only [setC] at M))) | ((with_reducible refine tBox _ ?_); (refine w_box M _ _ rfl rfl _ rfl _ rfl ?_; clear M; intro g w1 M))) <;> (try conv => arg 5; simp only [Act.put, List.setIfInBounds_toArray, setC]))
      go_ret
      exact ⟨rfl, M.upd1 0 rfl⟩
  · have e1 : InS.byte ⟨rest, read, err⟩ = (0, ⟨rest, read, err⟩) := by unfold InS.byte; rw [if_neg h0]
    rw [e1]; clear e1
    have H0 := Lib.hid h0
    clear h0
    go_enter Try.func22, Try.ntmps22
    go_wp2_with (first | (go_at_call 39; go_must (refine (reads_no g _ _ h H0.out).mono ?_; rintro e w1 ⟨rfl, rfl⟩)))
    go_ret
    exact ⟨rfl, M.upd1 0 rfl⟩
end
set_option maxRecDepth 100000 in
set_option maxHeartbeats 1000000 in
theorem Out_Byte_c (g : Nat) (v : Value) (l : List UInt8) (b : UInt8) (w : World) (hl : l.length ≤ 1000000) (ho : (outC g v l).ok w) :
    Calls Try.prog 34 #[.pointer (some ⟨g, 0, none⟩), .int .u8 (I8 b)] w fun e w' => e = .returned (.tuple #[]) ∧ ∃ v', Upd w (outC g v l) w' (outC g v' (l ++ [b])) := by
  have M := Mem.start1 ho
  go_enter Try.func34, Try.ntmps34
  go_wp2_with (first | ((with_reducible show wpList _ _ _ (Oper.mk _ (Op.buildSlice 41 1 _) _ _ _ _ :: _) _ _); go_must (refine w_buildSliceB M bytesT _ rfl rfl (by first | exact ev_tmp rfl | exact ev_const) ?_; clear M; intro g w1 M; (try conv => arg 5; simp only [Act.put, List.setIfInBounds_toArray, setC]))) | (go_at_call 63; go_must (refine (put_c _ _ _ _ [_] _ (M.ok 1 _ rfl) (row_sees1 (M.ok 0 _ rfl)) (by simp; omega)).mono ?_; rintro e w2 ⟨rfl, v1, U⟩; replace M := (M.upd 1 rfl U).tail; clear U)))
  simp only [List.set_cons_zero] at M
  exact bodyPost_end (results_none rfl _ _ _) rfl ⟨rfl, _, M.upd1 0 rfl⟩
section
variable (g : Nat) (x : RS) (w : World) (h : (Chunk.row g (irV x)).ok w)
include h
set_option maxRecDepth 100000 in
set_option maxHeartbeats 2000000 in
theorem InByte12_c (hf : x.rest.length ≤ 1000000000) :
    Calls Try.prog 59 #[.pointer (some ⟨g, 0, none⟩)] w fun e w' => e = .returned (.int .u8 x.byte.1) ∧ Upd w (.row g (irV x)) w' (.row g (irV x.byte.2)) := by
  obtain ⟨rest, err⟩ := x
  have M := Mem.start1 (c := .row g [.string (mkS rest), .int .i64 (err : Nat)]) h
  by_cases h0 : err = 0
  · subst h0
    cases rest with
    | nil =>
      go_enter Try.func59, Try.ntmps59
      go_wp2_with ((first | ((with_reducible refine tGuard ?_); refine w_strip rfl (by with_reducible rfl) ?_) | ((with_reducible refine tConv _ 41 9 ?_); go_must (first | refine w_stringW M _ _ _ _ _ rfl rfl (by first | exact at0) rfl (by first | assumption | exact lenI | exact lenS ‹_› | rfl) (by decide) Try.underlying41 Try.underlying5 Try.underlying9 ?_ | refine w_string M _ _ _ _ _ rfl rfl (by first | exact at0) (by first | rfl | (simp; done) | assumption) rfl Try.underlying41 Try.underlying5 Try.underlying9 ?_)) | ((with_reducible refine tLoad ?_); go_must (refine w_at _ _ rfl (by exact ev_tmp rfl) ?_; intro hx; (first | refine w_load M _ _ _ rfl (by first | exact at0) hx rfl (by decide +kernel) (by exact rfl) ?_ | refine w_loadB M _ _ _ rfl (by first | exact at0) hx rfl (by decide +kernel) (by first | assumption | omega | (simp; omega)) ?_ | refine w_loadH M _ _ _ rfl (by first | exact at0) hx rfl (by decide +kernel) (by first | assumption | exact lenI | exact lenS ‹_› | rfl) (by decide +kernel) ?_ | refine w_loadR M _ _ _ rfl (by first | exact at0) hx rfl (by decide +kernel) (by kernel_rfl) ?_); clear hx)) | ((with_reducible refine tStore ?_); go_must (refine w_at2 _ _ _ rfl (by exact ev_tmp rfl) (by first | exact ev_tmp rfl | exact ev_const) ?_; intro hx hy; (first | refine w_storeB M _ _ _ _ rfl (by first | exact at0) hx rfl hy (by decide +kernel) (by first | assumption | omega | (simp; omega)) ?_ | refine w_storeH M _ _ _ _ rfl (by first | exact at0) hx rfl hy (by first | assumption | exact lenI | exact lenS ‹_› | rfl) (by decide +kernel) (by first | assumption | exact lenI | exact lenS ‹_› | rfl) ?_ | refine w_store M _ _ _ _ rfl (by first | exact at0) hx rfl hy rfl rfl (by decide +kernel) (by first | decide | simp | (simp; omega)) ?_ | refine w_storeR M _ _ _ _ rfl (by first | exact at0) hx rfl _ hy rfl (by kernel_rfl) (by simp [Value.oneCell']) (by first | rfl | assumption) ?_); clear hx hy M; intro w1 M; (try simp only [setC] at M))) | ((with_reducible refine tBox _ ?_); (refine w_box M _ _ rfl rfl _ rfl _ rfl ?_; clear M; intro g w1 M))) <;> (try conv => arg 5; simp only [Act.put, List.setIfInBounds_toArray, setC]))
      go_ret
      exact ⟨rfl, M.upd1 0 rfl⟩
    | cons b r =>
      have hb : ((b.toNat : Nat) : Int) = I8 b := (I8_eq b).symm
      have e : RS.byte ⟨b :: r, 0⟩ = (b.toNat, ⟨r, 0⟩) := rfl
      rw [e]; simp only [hb]; clear e hb
      simp only [List.length_cons] at hf
      go_enter Try.func59, Try.ntmps59
      go_wp2_with ((first | ((with_reducible refine tGuard ?_); refine w_strip rfl (by with_reducible rfl) ?_) | ((with_reducible refine tConv _ 41 9 ?_); go_must (first | refine w_stringW M _ _ _ _ _ rfl rfl (by first | exact at0) rfl (by first | assumption | exact lenI | exact lenS ‹_› | rfl) (by decide) Try.underlying41 Try.underlying5 Try.underlying9 ?_ | refine w_string M _ _ _ _ _ rfl rfl (by first | exact at0) (by first | rfl | (simp; done) | assumption) rfl Try.underlying41 Try.underlying5 Try.underlying9 ?_)) | ((with_reducible refine tLoad ?_); go_must (refine w_at _ _ rfl (by exact ev_tmp rfl) ?_; intro hx; (first | refine w_load M _ _ _ rfl (by first | exact at0) hx rfl (by decide +kernel) (by exact rfl) ?_ | refine w_loadB M _ _ _ rfl (by first | exact at0) hx rfl (by decide +kernel) (by first | assumption | omega | (simp; omega)) ?_ | refine w_loadH M _ _ _ rfl (by first | exact at0) hx rfl (by decide +kernel) (by first | assumption | exact lenI | exact lenS ‹_› | rfl) (by decide +kernel) ?_ | refine w_loadR M _ _ _ rfl (by first | exact at0) hx rfl (by decide +kernel) (by kernel_rfl) ?_); clear hx)) | ((with_reducible refine tStore ?_); go_must (refine w_at2 _ _ _ rfl (by exact ev_tmp rfl) (by first | exact ev_tmp rfl | exact ev_const) ?_; intro hx hy; (first | refine w_storeB M _ _ _ _ rfl (by first | exact at0) hx rfl hy (by decide +kernel) (by first | assumption | omega | (simp; omega)) ?_ | refine w_storeH M _ _ _ _ rfl (by first | exact at0) hx rfl hy (by first | assumption | exact lenI | exact lenS ‹_› | rfl) (by decide +kernel) (by first | assumption | exact lenI | exact lenS ‹_› | rfl) ?_ | refine w_store M _ _ _ _ rfl (by first | exact at0) hx rfl hy rfl rfl (by decide +kernel) (by first | decide | simp | (simp; omega)) ?_ | refine w_storeR M _ _ _ _ rfl (by first | exact at0) hx rfl _ hy rfl (by kernel_rfl) (by simp [Value.oneCell']) (by first | rfl | assumption) ?_); clear hx hy M; intro w1 M; (try simp only [setC] at M))) | ((with_reducible refine tBox _ ?_); (refine w_box M _ _ rfl rfl _ rfl _ rfl ?_; clear M; intro g w1 M))) <;> (try conv => arg 5; simp only [Act.put, List.setIfInBounds_toArray, setC]))
      go_ret
      exact ⟨rfl, M.upd1 0 rfl⟩
  · have e1 : RS.byte ⟨rest, err⟩ = (0, ⟨rest, err⟩) := by unfold RS.byte; rw [if_neg h0]
    have hz : ((err : Int) == 0) = false := by simp; exact h0
    have hz' : ((err : Int) != 0) = true := by simp; exact h0
    rw [e1]; clear e1 h0
    go_enter Try.func59, Try.ntmps59
    go_wp2_with ((first | ((with_reducible refine tGuard ?_); refine w_strip rfl (by with_reducible rfl) ?_) | ((with_reducible refine tConv _ 41 9 ?_); go_must (first | refine w_stringW M _ _ _ _ _ rfl rfl (by first | exact at0) rfl (by first | assumption | exact lenI | exact lenS ‹_› | rfl) (by decide) Try.underlying41 Try.underlying5 Try.underlying9 ?_ | refine w_string M _ _ _ _ _ rfl rfl (by first | exact at0) (by first | rfl | (simp; done) | assumption) rfl Try.underlying41 Try.underlying5 Try.underlying9 ?_)) | ((with_reducible refine tLoad ?_); go_must (refine w_at _ _ rfl (by exact ev_tmp rfl) ?_; intro hx; (first | refine w_load M _ _ _ rfl (by first | exact at0) hx rfl (by decide +kernel) (by exact rfl) ?_ | refine w_loadB M _ _ _ rfl (by first | exact at0) hx rfl (by decide +kernel) (by first | assumption | omega | (simp; omega)) ?_ | refine w_loadH M _ _ _ rfl (by first | exact at0) hx rfl (by decide +kernel) (by first | assumption | exact lenI | exact lenS ‹_› | rfl) (by decide +kernel) ?_ | refine w_loadR M _ _ _ rfl (by first | exact at0) hx rfl (by decide +kernel) (by kernel_rfl) ?_); clear hx)) | ((with_reducible refine tStore ?_); go_must (refine w_at2 _ _ _ rfl (by exact ev_tmp rfl) (by first | exact ev_tmp rfl | exact ev_const) ?_; intro hx hy; (first | refine w_storeB M _ _ _ _ rfl (by first | exact at0) hx rfl hy (by decide +kernel) (by first | assumption | omega | (simp; omega)) ?_ | refine w_storeH M _ _ _ _ rfl (by first | exact at0) hx rfl hy (by first | assumption | exact lenI | exact lenS ‹_› | rfl) (by decide +kernel) (by first | assumption | exact lenI | exact lenS ‹_› | rfl) ?_ | refine w_store M _ _ _ _ rfl (by first | exact at0) hx rfl hy rfl rfl (by decide +kernel) (by first | decide | simp | (simp; omega)) ?_ | refine w_storeR M _ _ _ _ rfl (by first | exact at0) hx rfl _ hy rfl (by kernel_rfl) (by simp [Value.oneCell']) (by first | rfl | assumption) ?_); clear hx hy M; intro w1 M; (try simp only [setC] at M))) | ((with_reducible refine tBox _ ?_); (refine w_box M _ _ rfl rfl _ rfl _ rfl ?_; clear M; intro g w1 M))) <;> (try conv => arg 5; simp only [Act.put, List.setIfInBounds_toArray, setC]))
    go_ret
    exact ⟨rfl, M.upd1 0 rfl⟩
end
end Go.Proofs.Ytoaabclemeibhaa

/- The walks of layer 18's fields: msg.number, msg.hash and the closures. Conditions: lengths. -/
namespace Go
namespace TL
open Go.RowKit
section
variable {P : Program} {ops : Array Oper} {rest : List Oper} {o : Oper} {a : Act} {w w0 : World} {Q : Exit → Act → World → Prop} {F : List Nat} {L : List Chunk} {g : Nat}
theorem Mem.staysF {c : Chunk} (M : Mem F w0 w L) (R : c.ok w0) (hF : ∀ k ∈ c.fp, k ∉ F) : c.ok w := R.stay M.kept.size fun k hk => M.kept.block k (R.lt k hk) (hF k hk)
theorem w_rowF {cs : List Value} (M : Mem F w0 w L) (R : (Chunk.row g cs).ok w0) (hF : g ∉ F) (t : TypeId) (x : Operand) (ho : o.op = .load t x) {off : Nat} (hx : a.eval x = .pointer (some ⟨g, off, none⟩)) (hw : Region.wanted o (yielded ops a.tmps) = true)
    (ht : scalarT P t = true) {v : Value} (hv : cs[off]? = some v) (h : wpList P ops Q rest (a.put o.dst v) w) : wpList P ops Q (o :: rest) a w := by
  have R' := M.staysF R (by intro k hk; simp only [Chunk.fp, List.mem_singleton] at hk; subst hk; exact hF)
  exact wpW hw fun _ hK => by
    unfold Oper.wp execOp
    simp only [ho, hx, Instr.loadAt, Instr.sureAddr, Sem.run_bind, Sem.run_pure, Result.andThen_ok, run_loadVar_scalar ht w g _ _ (rowCell R' hv)]
    exact hK _ _ h
theorem w_rowFA {cs : List Value} (M : Mem F w0 w L) (R : (Chunk.row g cs).ok w0) (hF : g ∉ F) (t : TypeId) (x : Operand) (ho : o.op = .load t x) {off : Nat} (hx : a.eval x = .pointer (some ⟨g, off, none⟩)) (hw : Region.wanted o (yielded ops a.tmps) = true)
    (ht : rowT P t = true) (pre mid post : List Value) (hcs : cs = pre ++ (mid ++ post)) (hpre : pre.length = off) (hn : (P.info? t).map (·.size) = some mid.length) (h : wpList P ops Q rest (a.put o.dst (.agg mid.toArray)) w) : wpList P ops Q (o :: rest) a w := by
  have R' := M.staysF R (by intro k hk; simp only [Chunk.fp, List.mem_singleton] at hk; subst hk; exact hF)
  exact wpW hw fun _ hK => by
    unfold rowT at ht
    cases hu : P.underlying t with
    | none => simp [hu] at ht
    | some d =>
      simp only [hu] at ht
      refine wp_load_mid t x ho g off hx mid d ?_ hu ht hn (hK _ _ h)
      intro j v hv
      have hj : j < mid.length := (List.getElem?_eq_some_iff.1 hv).1
      refine rowCell R' ?_
      rw [hcs, ← hpre, List.getElem?_append_right (by omega), Nat.add_sub_cancel_left, List.getElem?_append_left hj]; exact hv
theorem stab_rowF {cs : List Value} (M : Mem F w0 w L) {is : List Nat} (R0 : (Chunk.row g cs).ok w0) (hF : g ∉ F) (off : Nat) {v : Value} {t : TypeId} {x : Operand} (ho : o.op = .load t x) (ht : scalarT P t = true) (hv : cs[off]? = some v) : Stab P (IxOk M is) o (.pointer (some ⟨g, off, none⟩)) := by
  unfold Stab; rw [ho]
  have R' : ∀ w' : World, Kept F w0 w' → (Chunk.row g cs).ok w' := fun w' k => R0.stay k.size fun j hj => k.block j (R0.lt j hj) (by simp only [Chunk.fp, List.mem_singleton] at hj; subst hj; exact hF)
  refine ⟨v, fun w' hw => ?_⟩
  simp only [Instr.loadAt, Instr.sureAddr, Sem.run_bind, Sem.run_pure, Result.andThen_ok, run_loadVar_scalar ht w' g off _ (rowCell (R' w' hw.1) hv)]
end
end TL
end Go
namespace Go.Proofs.Ytoaabclemeibhaa
open Go.RowKit Go.TL
def numF (g1 g2 : Nat) : Value := .agg #[.func (.func 67) #[] #[.pointer (some ⟨g2, 0, none⟩), .pointer (some ⟨g1, 0, none⟩)], .func (.func 69) #[] #[.pointer (some ⟨g1, 0, none⟩), .pointer (some ⟨g2, 0, none⟩)]]
def hashF (g : Nat) : Value := .agg #[.func (.func 71) #[] #[.pointer (some ⟨g, 0, none⟩)], .func (.func 72) #[] #[.pointer (some ⟨g, 0, none⟩)]]
set_option maxRecDepth 100000 in
set_option maxHeartbeats 2000000 in
theorem msgNumber_c (most : Int) (f : Nat) (w : World) : Calls Try.prog 41 #[.int .i64 most, .func (.func f) #[] #[]] w fun r w' => ∃ g1 g2, r = .returned (numF g1 g2) ∧ Mem [] w w' [.row g2 [.func (.func f) #[] #[]], .row g1 [.int .i64 most]] := by
  have M := Mem.start [] w
  have hmf : ∀ (fn : Fn) (first cap : Array Value) (w : World), (Instr.makeFunc fn first cap).run Try.prog w = .ok (.func fn first cap) w := fun _ _ _ _ => rfl
  go_enter Try.func41, Try.ntmps41
  go_wp2_with ((first | ((with_reducible refine tBox (some 2) ?_); refine w_box M _ _ rfl rfl _ rfl ([.int .i64 most]) rfl ?_; clear M; intro g1 w1 M) | ((with_reducible refine tBox (some 3) ?_); refine w_box M _ _ rfl rfl _ rfl ([.func (.func f) #[] #[]]) rfl ?_; clear M; intro g2 w1 M) | ((with_reducible refine tAlloc (some 4) 60 ?_); refine w_alloc M _ rfl rfl (.agg #[.nilFunc, .nilFunc]) ([.nilFunc, .nilFunc]) (by kernel_rfl) rfl ?_; clear M; intro gr w1 M) | ((with_reducible refine tGuard ?_); first | refine w_strip rfl (by with_reducible rfl) ?_ | ((fail_if_success (refine w_lit false rfl (by with_reducible rfl) ?_)); (fail_if_success (refine w_lit true rfl (by with_reducible rfl) ?_)); refine w_case rfl ?_ ?_ <;> (intro hgd; rw [hgd]; try (exfalso; simp at hgd; omega)))) | ((with_reducible refine tConv _ 41 9 ?_); go_must (first | refine w_stringW M _ _ _ _ _ rfl rfl (by first | exact at0 | exact at1 | exact at2) rfl (by first | assumption | exact lenI | exact lenS ‹_› | rfl) (by decide) Try.underlying41 Try.underlying5 Try.underlying9 ?_ | refine w_string M _ _ _ _ _ rfl rfl (by first | exact at0 | exact at1 | exact at2) (by first | rfl | (simp; done) | assumption) rfl Try.underlying41 Try.underlying5 Try.underlying9 ?_)) | ((with_reducible refine tLoad ?_); go_must (refine w_at _ _ rfl (by exact ev_tmp rfl) ?_; intro hx; (first | refine w_load M _ _ _ rfl (by first | exact at0 | exact at1 | exact at2) hx rfl (by decide +kernel) (by exact rfl) ?_ | refine w_loadB M _ _ _ rfl (by first | exact at0 | exact at1 | exact at2) hx rfl (by decide +kernel) (by first | assumption | omega | (simp; omega)) ?_ | refine w_loadH M _ _ _ rfl (by first | exact at0 | exact at1 | exact at2) hx rfl (by decide +kernel) (by first | assumption | exact lenI | exact lenS ‹_› | rfl) (by decide +kernel) ?_ | refine w_loadR M _ _ _ rfl (by first | exact at0 | exact at1 | exact at2) hx rfl (by decide +kernel) (by kernel_rfl) ?_); clear hx)) | ((with_reducible refine tStore ?_); go_must (refine w_at2 _ _ _ rfl (by exact ev_tmp rfl) (by first | exact ev_tmp rfl | exact ev_const) ?_; intro hx hy; (first | refine w_storeB M _ _ _ _ rfl (by first | exact at0 | exact at1 | exact at2) hx rfl hy (by decide +kernel) (by first | assumption | omega | (simp; omega)) ?_ | refine w_storeH M _ _ _ _ rfl (by first | exact at0 | exact at1 | exact at2) hx rfl hy (by first | assumption | exact lenI | exact lenS ‹_› | rfl) (by decide +kernel) (by first | assumption | exact lenI | exact lenS ‹_› | rfl) ?_ | refine w_store M _ _ _ _ rfl (by first | exact at0 | exact at1 | exact at2) hx rfl hy rfl rfl (by decide +kernel) (by first | decide | simp | (simp; omega)) ?_ | refine w_storeR M _ _ _ _ rfl (by first | exact at0 | exact at1 | exact at2) hx rfl _ hy rfl (by kernel_rfl) (by simp [Value.oneCell']) (by first | rfl | assumption) ?_); clear hx hy M; intro w1 M; (try simp only [setC] at M))) | ((with_reducible refine tBox _ ?_); (refine w_box M _ _ rfl rfl _ rfl _ rfl ?_; clear M; intro g w1 M))) <;> (try conv => arg 5; simp only [Act.put, List.setIfInBounds_toArray, setC]))
  exact bodyPost_ret (results_row rfl _ _ gr 0 [.func (.func 67) #[] #[.pointer (some ⟨g2, 0, none⟩), .pointer (some ⟨g1, 0, none⟩)], .func (.func 69) #[] #[.pointer (some ⟨g1, 0, none⟩), .pointer (some ⟨g2, 0, none⟩)]] _ rfl (M.ok 0 _ rfl).2.1 Try.underlying60 rfl (by kernel_rfl)) rfl ⟨g1, g2, rfl, M.tail⟩
set_option maxRecDepth 100000 in
set_option maxHeartbeats 2000000 in
theorem msgHash_c (f : Nat) (w : World) : Calls Try.prog 48 #[.func (.func f) #[] #[]] w fun r w' => ∃ g, r = .returned (hashF g) ∧ Mem [] w w' [.row g [.func (.func f) #[] #[]]] := by
  have M := Mem.start [] w
  have hmf : ∀ (fn : Fn) (first cap : Array Value) (w : World), (Instr.makeFunc fn first cap).run Try.prog w = .ok (.func fn first cap) w := fun _ _ _ _ => rfl
  go_enter Try.func48, Try.ntmps48
  go_wp2_with ((first | ((with_reducible refine tBox (some 1) ?_); refine w_box M _ _ rfl rfl _ rfl ([.func (.func f) #[] #[]]) rfl ?_; clear M; intro g1 w1 M) | ((with_reducible refine tAlloc (some 2) 60 ?_); refine w_alloc M _ rfl rfl (.agg #[.nilFunc, .nilFunc]) ([.nilFunc, .nilFunc]) (by kernel_rfl) rfl ?_; clear M; intro gr w1 M) | ((with_reducible refine tGuard ?_); first | refine w_strip rfl (by with_reducible rfl) ?_ | ((fail_if_success (refine w_lit false rfl (by with_reducible rfl) ?_)); (fail_if_success (refine w_lit true rfl (by with_reducible rfl) ?_)); refine w_case rfl ?_ ?_ <;> (intro hgd; rw [hgd]; try (exfalso; simp at hgd; omega)))) | ((with_reducible refine tConv _ 41 9 ?_); go_must (first | refine w_stringW M _ _ _ _ _ rfl rfl (by first | exact at0 | exact at1) rfl (by first | assumption | exact lenI | exact lenS ‹_› | rfl) (by decide) Try.underlying41 Try.underlying5 Try.underlying9 ?_ | refine w_string M _ _ _ _ _ rfl rfl (by first | exact at0 | exact at1) (by first | rfl | (simp; done) | assumption) rfl Try.underlying41 Try.underlying5 Try.underlying9 ?_)) | ((with_reducible refine tLoad ?_); go_must (refine w_at _ _ rfl (by exact ev_tmp rfl) ?_; intro hx; (first | refine w_load M _ _ _ rfl (by first | exact at0 | exact at1) hx rfl (by decide +kernel) (by exact rfl) ?_ | refine w_loadB M _ _ _ rfl (by first | exact at0 | exact at1) hx rfl (by decide +kernel) (by first | assumption | omega | (simp; omega)) ?_ | refine w_loadH M _ _ _ rfl (by first | exact at0 | exact at1) hx rfl (by decide +kernel) (by first | assumption | exact lenI | exact lenS ‹_› | rfl) (by decide +kernel) ?_ | refine w_loadR M _ _ _ rfl (by first | exact at0 | exact at1) hx rfl (by decide +kernel) (by kernel_rfl) ?_); clear hx)) | ((with_reducible refine tStore ?_); go_must (refine w_at2 _ _ _ rfl (by exact ev_tmp rfl) (by first | exact ev_tmp rfl | exact ev_const) ?_; intro hx hy; (first | refine w_storeB M _ _ _ _ rfl (by first | exact at0 | exact at1) hx rfl hy (by decide +kernel) (by first | assumption | omega | (simp; omega)) ?_ | refine w_storeH M _ _ _ _ rfl (by first | exact at0 | exact at1) hx rfl hy (by first | assumption | exact lenI | exact lenS ‹_› | rfl) (by decide +kernel) (by first | assumption | exact lenI | exact lenS ‹_› | rfl) ?_ | refine w_store M _ _ _ _ rfl (by first | exact at0 | exact at1) hx rfl hy rfl rfl (by decide +kernel) (by first | decide | simp | (simp; omega)) ?_ | refine w_storeR M _ _ _ _ rfl (by first | exact at0 | exact at1) hx rfl _ hy rfl (by kernel_rfl) (by simp [Value.oneCell']) (by first | rfl | assumption) ?_); clear hx hy M; intro w1 M; (try simp only [setC] at M))) | ((with_reducible refine tBox _ ?_); (refine w_box M _ _ rfl rfl _ rfl _ rfl ?_; clear M; intro g w1 M))) <;> (try conv => arg 5; simp only [Act.put, List.setIfInBounds_toArray, setC]))
  exact bodyPost_ret (results_row rfl _ _ gr 0 [.func (.func 71) #[] #[.pointer (some ⟨g1, 0, none⟩)], .func (.func 72) #[] #[.pointer (some ⟨g1, 0, none⟩)]] _ rfl (M.ok 0 _ rfl).2.1 Try.underlying60 rfl (by kernel_rfl)) rfl ⟨g1, rfl, M.tail⟩
theorem at1F_c (g : Nat) (w : World) : Calls Try.prog 42 #[.pointer (some ⟨g, 0, none⟩)] w fun e w' => e = .returned (.pointer (some ⟨g, 1, none⟩)) ∧ w = w' := by
  go_enter Try.func42, Try.ntmps42
  go_wp2_with fail
  go_ret
  exact ⟨rfl, rfl⟩
theorem at2F_c (g : Nat) (w : World) : Calls Try.prog 43 #[.pointer (some ⟨g, 0, none⟩)] w fun e w' => e = .returned (.pointer (some ⟨g, 2, none⟩)) ∧ w = w' := by
  go_enter Try.func43, Try.ntmps43
  go_wp2_with fail
  go_ret
  exact ⟨rfl, rfl⟩
theorem at3F_c (g : Nat) (w : World) : Calls Try.prog 44 #[.pointer (some ⟨g, 0, none⟩)] w fun e w' => e = .returned (.pointer (some ⟨g, 3, none⟩)) ∧ w = w' := by
  go_enter Try.func44, Try.ntmps44
  go_wp2_with fail
  go_ret
  exact ⟨rfl, rfl⟩
theorem at4F_c (g : Nat) (w : World) : Calls Try.prog 45 #[.pointer (some ⟨g, 0, none⟩)] w fun e w' => e = .returned (.pointer (some ⟨g, 7, none⟩)) ∧ w = w' := by
  go_enter Try.func45, Try.ntmps45
  go_wp2_with fail
  go_ret
  exact ⟨rfl, rfl⟩
theorem at5F_c (g : Nat) (w : World) : Calls Try.prog 46 #[.pointer (some ⟨g, 0, none⟩)] w fun e w' => e = .returned (.pointer (some ⟨g, 40, none⟩)) ∧ w = w' := by
  go_enter Try.func46, Try.ntmps46
  go_wp2_with fail
  go_ret
  exact ⟨rfl, rfl⟩
theorem at6F_c (g : Nat) (w : World) : Calls Try.prog 47 #[.pointer (some ⟨g, 0, none⟩)] w fun e w' => e = .returned (.pointer (some ⟨g, 41, none⟩)) ∧ w = w' := by
  go_enter Try.func47, Try.ntmps47
  go_wp2_with fail
  go_ret
  exact ⟨rfl, rfl⟩
theorem at7F_c (g : Nat) (w : World) : Calls Try.prog 49 #[.pointer (some ⟨g, 0, none⟩)] w fun e w' => e = .returned (.pointer (some ⟨g, 8, none⟩)) ∧ w = w' := by
  go_enter Try.func49, Try.ntmps49
  go_wp2_with fail
  go_ret
  exact ⟨rfl, rfl⟩
theorem at8F_c (g : Nat) (w : World) : Calls Try.prog 50 #[.pointer (some ⟨g, 0, none⟩)] w fun e w' => e = .returned (.pointer (some ⟨g, 42, none⟩)) ∧ w = w' := by
  go_enter Try.func50, Try.ntmps50
  go_wp2_with fail
  go_ret
  exact ⟨rfl, rfl⟩
theorem at9F_c (g : Nat) (w : World) : Calls Try.prog 51 #[.pointer (some ⟨g, 0, none⟩)] w fun e w' => e = .returned (.pointer (some ⟨g, 74, none⟩)) ∧ w = w' := by
  go_enter Try.func51, Try.ntmps51
  go_wp2_with fail
  go_ret
  exact ⟨rfl, rfl⟩
def mfFn : Mf → Nat
  | .e => 42 | .a => 43 | .o => 44 | .p => 45 | .v => 46 | .i => 47
set_option maxRecDepth 100000 in
set_option maxHeartbeats 8000000 in
theorem numPut_c (q : Mf) (most : Int) (gm g1 g2 go : Nat) (m : Ms) (v : Value) (l : List UInt8) (w : World) (hm : m.fit) (hn : 0 ≤ q.get m ∧ q.get m ≤ 9223372036854775807) (hl : l.length ≤ 1000000) (ho : (outC go v l).ok w)
    (R : (Chunk.row gm (msgC m)).ok w) (B1 : (Chunk.row g1 [.int .i64 most]).ok w) (B2 : (Chunk.row g2 [.func (.func (mfFn q)) #[] #[]]).ok w) (n0 : gm ∉ (outC go v l).fp) (n1 : g1 ∉ (outC go v l).fp) (n2 : g2 ∉ (outC go v l).fp) :
    Calls Try.prog 67 #[.pointer (some ⟨go, 0, none⟩), .pointer (some ⟨gm, 0, none⟩), .pointer (some ⟨g2, 0, none⟩), .pointer (some ⟨g1, 0, none⟩)] w fun e w' => e = .returned (.bool (decide (q.get m ≤ most))) ∧ ∃ v', Upd w (outC go v l) w' (outC go v' (l ++ numL (q.get m).toNat)) := by
  have M := Mem.start1 ho
  have HQ := msgC_num hm q
  obtain ⟨z, ez⟩ : ∃ z, z = q.get m := ⟨_, rfl⟩
  rw [← ez] at HQ hn ⊢
  clear ez
  obtain ⟨z, rfl⟩ : ∃ n : Nat, z = n := ⟨z.toNat, by omega⟩
  have e1 := I64_nat z (by omega)
  replace HQ := Lib.hid HQ
  cases q
  all_goals
    simp only [mfFn] at B2
    go_enter Try.func67, Try.ntmps67
    go_wp2_with ((first | ((with_reducible refine tLoad ?_); go_must (refine w_at _ _ rfl (by exact ev_tmp rfl) ?_; intro hx; (first | refine w_rowF M B2 n2 _ _ rfl hx rfl (by decide +kernel) rfl ?_ | refine w_rowF M B1 n1 _ _ rfl hx rfl (by decide +kernel) rfl ?_ | refine w_rowF M R n0 _ _ rfl hx rfl (by decide +kernel) HQ.out ?_); clear hx)) | ((first | (go_at_call 42; refine (at1F_c _ _).mono ?_) | (go_at_call 43; refine (at2F_c _ _).mono ?_) | (go_at_call 44; refine (at3F_c _ _).mono ?_) | (go_at_call 45; refine (at4F_c _ _).mono ?_) | (go_at_call 46; refine (at5F_c _ _).mono ?_) | (go_at_call 47; refine (at6F_c _ _).mono ?_)); rintro e w1 ⟨rfl, rfl⟩) | (go_at_call 68; go_must (refine (Num_c _ _ l z (z : Int) rfl _ (by omega) (by omega) (M.ok 0 _ rfl)).mono ?_; rintro r w2 ⟨rfl, v1, U⟩; replace M := M.upd 0 rfl U; clear U; simp only [setC] at M)) | ((with_reducible refine tGuard ?_); refine w_strip rfl (by with_reducible rfl) ?_) | fail | ((with_reducible refine tLoad ?_); go_must (refine w_at _ _ rfl (by exact ev_tmp rfl) ?_; intro hx; (first | refine w_load M _ _ _ rfl (by first | exact at0) hx rfl (by decide +kernel) (by exact rfl) ?_ | refine w_loadR M _ _ _ rfl (by first | exact at0) hx rfl (by decide +kernel) (by kernel_rfl) ?_); clear hx)) | ((with_reducible refine tStore ?_); go_must (refine w_at2 _ _ _ rfl (by exact ev_tmp rfl) (by first | exact ev_tmp rfl | exact ev_const) ?_; intro hx hy; (first | refine w_store M _ _ _ _ rfl (by first | exact at0) hx rfl hy rfl rfl (by decide +kernel) (by first | decide | simp | (simp; omega)) ?_ | refine w_storeR M _ _ _ _ rfl (by first | exact at0) hx rfl _ hy rfl (by kernel_rfl) (by simp [Value.oneCell']) (by first | rfl | assumption) ?_); clear hx hy M; intro w1 M; (try simp only [setC] at M))) | ((with_reducible refine tBox _ ?_); (refine w_box M _ _ rfl rfl _ rfl _ rfl ?_; clear M; intro g w1 M))) <;> (try conv => arg 5; simp only [Act.put, List.setIfInBounds_toArray, setC]))
    go_ret
    exact ⟨rfl, _, M.upd1 0 rfl⟩
end Go.Proofs.Ytoaabclemeibhaa

/- A callee that turns several pieces: the memory starts anew at its call, and is joined behind it. No conditions. -/
namespace Go
namespace TL
open Go.RowKit
theorem mem_fps {K : List Chunk} {i : Nat} {c : Chunk} (h : K[i]? = some c) {k : Nat} (hk : k ∈ c.fp) : k ∈ K.flatMap Chunk.fp := List.mem_flatMap.2 ⟨c, List.mem_of_getElem? h, hk⟩
theorem Mem.again {F : List Nat} {w0 w : World} {K L : List Chunk} (M : Mem F w0 w (K ++ L)) : Mem (K.flatMap Chunk.fp) w w K := by
  have e : ∀ {i : Nat} {c : Chunk}, K[i]? = some c → (K ++ L)[i]? = some c := fun {i c} h => by rw [List.getElem?_append_left (List.getElem?_eq_some_iff.1 h).1]; exact h
  exact ⟨Kept.refl _ _, fun i c h => M.ok i c (e h), fun i c h k hk => .inl (mem_fps h hk), fun i j c d hij hi hj => M.nd i j c d hij (e hi) (e hj)⟩
theorem Mem.turn {F : List Nat} {w0 w w' : World} {K K' L : List Chunk} (M : Mem F w0 w (K ++ L)) (U : Mem (K.flatMap Chunk.fp) w w' K') : Mem F w0 w' (K' ++ L) := by
  have el : ∀ {i : Nat} {c : Chunk}, K[i]? = some c → (K ++ L)[i]? = some c := fun {i c} h => by rw [List.getElem?_append_left (List.getElem?_eq_some_iff.1 h).1]; exact h
  have er : ∀ {i : Nat} {c : Chunk}, L[i]? = some c → (K ++ L)[K.length + i]? = some c := fun {i c} h => by rw [List.getElem?_append_right (by omega), Nat.add_sub_cancel_left]; exact h
  have fpK : ∀ k, k ∈ K.flatMap Chunk.fp → ∃ (i : Nat) (c : Chunk), K[i]? = some c ∧ k ∈ c.fp := fun k hk => by
    obtain ⟨c, hc, hk⟩ := List.mem_flatMap.1 hk
    obtain ⟨i, hi⟩ := List.mem_iff_getElem?.1 hc
    exact ⟨i, c, hi, hk⟩
  have apart : ∀ {i : Nat} {d : Chunk}, L[i]? = some d → ∀ k ∈ d.fp, k ∉ K.flatMap Chunk.fp := fun {i d} hd k hk hK => by
    obtain ⟨j, c, hj, hk'⟩ := fpK k hK
    have hjl := (List.getElem?_eq_some_iff.1 hj).1
    exact M.nd (K.length + i) j d c (by omega) (er hd) (el hj) k hk hk'
  have okL : ∀ {i : Nat} {d : Chunk}, L[i]? = some d → d.ok w' := fun {i d} hd => (M.ok _ d (er hd)).stay U.kept.size fun k hk => U.kept.block k ((M.ok _ d (er hd)).lt k hk) (apart hd k hk)
  have split : ∀ {i : Nat} {c : Chunk}, (K' ++ L)[i]? = some c → K'[i]? = some c ∨ (K'.length ≤ i ∧ L[i - K'.length]? = some c) := fun {i c} h => by
    by_cases hi : i < K'.length
    · rw [List.getElem?_append_left hi] at h; exact .inl h
    · rw [List.getElem?_append_right (by omega)] at h; exact .inr ⟨by omega, h⟩
  have ownK : ∀ {i : Nat} {c : Chunk}, K'[i]? = some c → ∀ k ∈ c.fp, k ∈ K.flatMap Chunk.fp ∨ w.heap.size ≤ k := fun {i c} h => U.own i c h
  have xap : ∀ {i j : Nat} {c d : Chunk}, K'[i]? = some c → L[j]? = some d → ∀ k ∈ c.fp, k ∉ d.fp := fun {i j c d} hi hj k hk hk2 => by
    rcases ownK hi k hk with h | h
    · exact apart hj k hk2 h
    · have := (M.ok _ d (er hj)).lt k hk2; omega
  refine ⟨M.kept.trans U.kept fun x hx => ?_, ?_, ?_, ?_⟩
  · obtain ⟨i, c, hi, hk⟩ := fpK x hx
    exact M.own i c (el hi) x hk
  · intro i c h
    rcases split h with h | ⟨_, h⟩
    · exact U.ok i c h
    · exact okL h
  · intro i c h k hk
    rcases split h with h | ⟨_, h⟩
    · rcases ownK h k hk with h' | h'
      · obtain ⟨j, d, hj, hkd⟩ := fpK k h'
        exact M.own j d (el hj) k hkd
      · exact .inr (Nat.le_trans M.kept.size h')
    · exact M.own _ c (er h) k hk
  · intro i j c d hij hi hj k hk hk2
    rcases split hi with hi | ⟨li, hi⟩ <;> rcases split hj with hj | ⟨lj, hj⟩
    · exact U.nd i j c d hij hi hj k hk hk2
    · exact xap hi hj k hk hk2
    · exact xap hj hi k hk2 hk
    · exact M.nd _ _ c d (by omega) (er hi) (er hj) k hk hk2
end TL
end Go

/- The walks of layer 18's fields that are read: a number. Conditions: lengths. -/
namespace Go.Proofs.Ytoaabclemeibhaa
open Go.RowKit Go.TL
set_option maxRecDepth 100000 in
set_option maxHeartbeats 8000000 in
theorem numGet_c (q : Mf) (N : Nat) (gm g1 g2 gi : Nat) (m : Ms) (x : InS) (F : List Nat) (w : World) (hm : m.fit) (hf : x.fit) (hN : N < 9223372036854775808) (M : Mem F w w [.row gi (inV x), .row gm (msgC m)])
    (B1 : (Chunk.row g1 [.int .i64 (N : Int)]).ok w) (B2 : (Chunk.row g2 [.func (.func (mfFn q)) #[] #[]]).ok w) (n1 : g1 ∉ F) (n2 : g2 ∉ F) :
    Calls Try.prog 69 #[.pointer (some ⟨gi, 0, none⟩), .pointer (some ⟨gm, 0, none⟩), .pointer (some ⟨g1, 0, none⟩), .pointer (some ⟨g2, 0, none⟩)] w fun e w' => e = .returned (.int .i64 0) ∧ Mem F w w' [.row gi (inV (x.most N).2), .row gm (msgC (q.set m ((x.most N).1 : Int)))] := by
  have TC := fun g (w : World) h => Most_c g x w h hf N (N : Int) rfl (by omega)
  replace TC := Lib.hid TC
  cases q
  all_goals
    simp only [mfFn] at B2
    go_enter Try.func69, Try.ntmps69
    go_wp2_with ((first | ((with_reducible show Code.wp _ (Code.region 1 _ _) _ _ _); go_must (have MR := M; refine region_lowc [(1, false), (3, false), (0, false), (4, false), (2, true), (5, true), (6, false), (7, true)] [(9, .ptr)] [(0, _), (4, _)] (IxOk MR []) 7 (by kernel_rfl) (by kernel_rfl) rfl (by kernel_rfl) (lows_cons (stab_rowF MR B2 n2 0 rfl (by decide +kernel) rfl) (lows_cons (stab_rowF MR B1 n1 0 rfl (by decide +kernel) rfl) lows_nil)) (ixOk_self MR _) ?_; replace M := M.drew; simp only [planC, opAt, List.getElem?_toArray, List.getElem?_cons_zero, List.getElem?_cons_succ, Option.getD_some])) | ((with_reducible refine tLoad ?_); go_must (refine w_at _ _ rfl (by exact ev_tmp rfl) ?_; intro hx; (first | refine w_rowF M B2 n2 _ _ rfl hx rfl (by decide +kernel) rfl ?_ | refine w_rowF M B1 n1 _ _ rfl hx rfl (by decide +kernel) rfl ?_); clear hx)) | ((first | (go_at_call 42; refine (at1F_c _ _).mono ?_) | (go_at_call 43; refine (at2F_c _ _).mono ?_) | (go_at_call 44; refine (at3F_c _ _).mono ?_) | (go_at_call 45; refine (at4F_c _ _).mono ?_) | (go_at_call 46; refine (at5F_c _ _).mono ?_) | (go_at_call 47; refine (at6F_c _ _).mono ?_)); rintro e w1 ⟨rfl, rfl⟩) | (go_at_call 70; go_must (refine (TC.out _ _ (M.ok 0 _ rfl)).mono ?_; rintro r w2 ⟨rfl, U⟩; replace M := M.upd 0 rfl U; clear U; simp only [setC] at M)) | ((with_reducible refine tStore ?_); go_must (refine w_at2 _ _ _ rfl (by exact ev_tmp rfl) (by first | exact ev_tmp rfl | exact ev_const) ?_; intro hx hy; (first | refine w_storeMf M 1 _ _ _ rfl rfl hx rfl hy (by decide +kernel) hm .e rfl ?_ | refine w_storeMf M 1 _ _ _ rfl rfl hx rfl hy (by decide +kernel) hm .a rfl ?_ | refine w_storeMf M 1 _ _ _ rfl rfl hx rfl hy (by decide +kernel) hm .o rfl ?_ | refine w_storeMf M 1 _ _ _ rfl rfl hx rfl hy (by decide +kernel) hm .p rfl ?_ | refine w_storeMf M 1 _ _ _ rfl rfl hx rfl hy (by decide +kernel) hm .v rfl ?_ | refine w_storeMf M 1 _ _ _ rfl rfl hx rfl hy (by decide +kernel) hm .i rfl ?_); clear hx hy M; intro w1 M; (try simp only [setC] at M))) | ((with_reducible show Seg _ _ _ _); go_must (first | refine Seg.intro ⟨fun h => absurd rfl h, ?_⟩ | refine Seg.intro ⟨fun _ => (by repeat' (first | exact ixOk_nil M.kept | refine ixOk_cons rfl (by first | exact M.ok 0 _ rfl | exact M.ok 1 _ rfl) ?_)), ?_⟩ | refine Seg.intro ⟨(by repeat' (first | (with_reducible exact needs_nil) | refine needs_at rfl (by first | (show Shape.ok Shape.nums _ = true; exact nums_bs _) | rfl) ?_)), (by repeat' (first | (with_reducible exact ats_nil) | refine ats_cons (by first | exact ev_tmp rfl | rfl) ?_)), ?_⟩)) | ((with_reducible show OnlyN _ _ _ _ _); refine OnlyN.intro (by kernel_rfl) ?_) | ((with_reducible refine tGuard ?_); refine w_strip rfl (by with_reducible rfl) ?_) | fail | ((with_reducible refine tLoad ?_); go_must (refine w_at _ _ rfl (by exact ev_tmp rfl) ?_; intro hx; (first | refine w_load M _ _ _ rfl rfl hx rfl (by decide +kernel) (by exact rfl) ?_ | refine w_loadR M _ _ _ rfl rfl hx rfl (by decide +kernel) (by kernel_rfl) ?_); clear hx)) | ((with_reducible refine tStore ?_); go_must (refine w_at2 _ _ _ rfl (by exact ev_tmp rfl) (by first | exact ev_tmp rfl | exact ev_const) ?_; intro hx hy; (first | refine w_store M _ _ _ _ rfl rfl hx rfl hy rfl rfl (by decide +kernel) (by first | decide | simp | (simp; omega)) ?_ | refine w_storeR M _ _ _ _ rfl rfl hx rfl _ hy rfl (by kernel_rfl) (by simp [Value.oneCell']) (by first | rfl | assumption) ?_); clear hx hy M; intro w1 M; (try simp only [setC] at M))) | ((with_reducible refine tBox _ ?_); (refine w_box M _ _ rfl rfl _ rfl _ rfl ?_; clear M; intro g w1 M))) <;> (try conv => arg 5; simp only [Act.put, List.setIfInBounds_toArray, setC]))
    go_ret
    exact ⟨rfl, M⟩
end Go.Proofs.Ytoaabclemeibhaa

/- Plain laws of pack's reader: it stays within its bounds; behind a fault nothing is read. No program in this text. No conditions but those each lemma names. -/
namespace Go
namespace TL
theorem readN_le (s : List UInt8) (m : Nat) : (readN s m).2.1 ≤ s.length ∧ (readN s m).2.1 ≤ 10 ∧ (readN s m).1 ≤ m := read_le (s := s) (most := m) rfl
def inStart (s : List UInt8) : InS := ⟨s, 0, 0⟩
/-! ### The reader stays within its bounds -/
theorem InS.take_fit {x : InS} {k e : Nat} (h : x.fit) (hk : k ≤ x.rest.length) : (x.take k e).fit := by
  unfold InS.take InS.fit at *
  split
  · simp only [List.length_drop]; omega
  · exact h
theorem InS.most_fit {x : InS} (h : x.fit) (m : Nat) : (x.most m).2.fit := by
  unfold InS.most
  split
  · exact InS.take_fit h (read_le (s := x.rest) (most := m) rfl).1
  · exact h
theorem InS.text_fit {x : InS} (h : x.fit) (m : Nat) : (x.text m).2.fit := by
  unfold InS.text
  split
  · split
    · split
      · have := (readN_le x.rest m).1
        exact InS.take_fit h (by omega)
      · exact InS.take_fit h (Nat.zero_le _)
    · exact InS.take_fit h (Nat.zero_le _)
  · exact h
theorem InS.byte_fit {x : InS} (h : x.fit) : x.byte.2.fit := by
  unfold InS.byte
  split
  · split
    · exact InS.take_fit h (Nat.zero_le _)
    · rename_i b l e; exact InS.take_fit h (by rw [e]; simp)
  · exact h
theorem InS.most_le (x : InS) (m : Nat) : (x.most m).1 ≤ m := by
  unfold InS.most
  split
  · exact (read_le (s := x.rest) (most := m) rfl).2.2
  · exact Nat.zero_le _
theorem InS.text_len (x : InS) (m : Nat) : (x.text m).1.length ≤ m := by
  unfold InS.text
  split
  · split
    · split
      · have := (readN_le x.rest m).2.2
        simp; omega
      · simp
    · simp
  · simp
theorem InS.text_err {x : InS} (h : x.err ≠ 0) (m : Nat) : x.text m = ([], x) := by unfold InS.text; rw [if_neg h]
theorem InS.most_err {x : InS} (h : x.err ≠ 0) (m : Nat) : x.most m = (0, x) := by unfold InS.most; rw [if_neg h]
theorem fin_err {x : InS} (h : x.err ≠ 0) : x.fin = x.err := by unfold InS.fin; rw [if_neg h]
end TL
end Go

/- The walks of layer 18's fields: a hash is put. Conditions: lengths. -/
namespace Go
namespace TL
def hashS (h0 : List UInt8) (x0 : InS) : Nat → InS × List UInt8
  | 0 => (x0, h0)
  | n + 1 => ((hashS h0 x0 n).1.byte.2, (hashS h0 x0 n).2.set n (UInt8.ofNat (hashS h0 x0 n).1.byte.1))
theorem hashS_succ (h0 : List UInt8) (x0 : InS) (n : Nat) : hashS h0 x0 (n + 1) = ((hashS h0 x0 n).1.byte.2, (hashS h0 x0 n).2.set n (UInt8.ofNat (hashS h0 x0 n).1.byte.1)) := rfl
theorem hashS_len {h0 : List UInt8} (h : h0.length = 32) (x0 : InS) : ∀ n, (hashS h0 x0 n).2.length = 32
  | 0 => h
  | n + 1 => by rw [hashS_succ, List.length_set]; exact hashS_len h x0 n
theorem hashS_fit (h0 : List UInt8) {x0 : InS} (h : x0.fit) : ∀ n, (hashS h0 x0 n).1.fit
  | 0 => h
  | n + 1 => InS.byte_fit (hashS_fit h0 h n)
theorem Hf.get_set {m : Ms} (x : List UInt8) (f : Hf) : f.get (f.set m x) = x := by cases f <;> rfl
theorem Hf.set_set {m : Ms} (x y : List UInt8) (f : Hf) : f.set (f.set m x) y = f.set m y := by cases f <;> rfl
theorem byte_some (x : InS) : ∃ q : UInt8, x.byte.1 = q.toNat := by
  unfold InS.byte
  split
  · split
    · exact ⟨0, rfl⟩
    · rename_i b _ _; exact ⟨b, rfl⟩
  · exact ⟨0, rfl⟩
end TL
end Go
namespace Go.Proofs.Ytoaabclemeibhaa
open Go.RowKit Go.TL
def hfFn : Hf → Nat
  | .r => 49 | .lf => 50 | .rt => 51
set_option maxRecDepth 100000 in
set_option maxHeartbeats 8000000 in
theorem hashPut_c (q : Hf) (gm g1 go : Nat) (m : Ms) (v : Value) (l : List UInt8) (w : World) (hm : m.fit) (hl : l.length ≤ 900000) (ho : (outC go v l).ok w)
    (R : (Chunk.row gm (msgC m)).ok w) (B1 : (Chunk.row g1 [.func (.func (hfFn q)) #[] #[]]).ok w) (n0 : gm ∉ (outC go v l).fp) (n1 : g1 ∉ (outC go v l).fp) :
    Calls Try.prog 71 #[.pointer (some ⟨go, 0, none⟩), .pointer (some ⟨gm, 0, none⟩), .pointer (some ⟨g1, 0, none⟩)] w fun e w' => e = .returned (.bool true) ∧ ∃ v', Upd w (outC go v l) w' (outC go v' (l ++ q.get m)) := by
  have M := Mem.start1 ho
  have HG := msgC_get m q
  have HP := q.pre_len hm
  have hlen := q.len hm
  obtain ⟨x, ex⟩ : ∃ x, x = q.get m := ⟨_, rfl⟩
  rw [← ex] at HG hlen ⊢
  clear ex
  replace HG := Lib.hid HG
  replace HP := Lib.hid HP
  cases q
  all_goals
    simp only [hfFn] at B1
    go_enter Try.func71, Try.ntmps71
    go_wp2_with ((first | ((with_reducible refine tLoad ?_); go_must (refine w_at _ _ rfl (by exact ev_tmp rfl) ?_; intro hx; (first | refine w_rowF M B1 n1 _ _ rfl hx rfl (by decide +kernel) rfl ?_ | refine w_rowFA M R n0 _ _ rfl hx rfl (by decide +kernel) _ _ _ HG.out HP.out (by rw [bs_length, hlen]; kernel_rfl) ?_); clear hx)) | ((first | (go_at_call 49; refine (at7F_c _ _).mono ?_) | (go_at_call 50; refine (at8F_c _ _).mono ?_) | (go_at_call 51; refine (at9F_c _ _).mono ?_)); rintro e w1 ⟨rfl, rfl⟩) | ((with_reducible refine tGuard ?_); refine w_strip rfl (by with_reducible rfl) ?_) | fail | ((with_reducible refine tLoad ?_); go_must (refine w_at _ _ rfl (by exact ev_tmp rfl) ?_; intro hx; (first | refine w_load M _ _ _ rfl (by first | exact at0) hx rfl (by decide +kernel) (by exact rfl) ?_ | refine w_loadR M _ _ _ rfl (by first | exact at0) hx rfl (by decide +kernel) (by kernel_rfl) ?_); clear hx)) | ((with_reducible refine tStore ?_); go_must (refine w_at2 _ _ _ rfl (by exact ev_tmp rfl) (by first | exact ev_tmp rfl | exact ev_const) ?_; intro hx hy; (first | refine w_store M _ _ _ _ rfl (by first | exact at0) hx rfl hy rfl rfl (by decide +kernel) (by first | decide | simp | (simp; omega)) ?_ | refine w_storeR M _ _ _ _ rfl (by first | exact at0) hx rfl _ hy rfl (by kernel_rfl) (by simp [Value.oneCell']) (by first | rfl | assumption) ?_); clear hx hy M; intro w1 M; (try simp only [setC] at M))) | ((with_reducible refine tBox _ ?_); (refine w_box M _ _ rfl rfl _ rfl _ rfl ?_; clear M; intro g w1 M))) <;> (try conv => arg 5; simp only [Act.put, List.setIfInBounds_toArray, setC]))
    go_loopw [13] (fun iv wr => ∃ (j : Nat) (v1 : Value), j ≤ 32 ∧ iv = .int .i64 j ∧ Mem (outC go v l).fp w wr [outC go v1 (l ++ x.take j)]) (fun iv _ => 32 - (intOf iv).toNat)
    case atStart => exact ⟨0, v, by omega, rfl, by simpa using M⟩
    case round =>
      clear M
      obtain ⟨j, v1, hj, rfl, M⟩ := hrel
      by_cases hlt : j < 32
      · have hix : ∀ w'', (Instr.index 27 (.agg (bs x).toArray) (.int .i64 j)).run Try.prog w'' = .ok (.int .u8 (I8 (x.getD j 0))) w'' := fun w'' => run_index_agg _ _ 32 _ Try.underlying27 _ Try.underlying5 rfl (by kernel_rfl) j hlt _ (by rw [List.getElem?_toArray]; exact getD_some (by omega)) w''
        have EJ : l ++ x.take (j + 1) = l ++ x.take j ++ [x.getD j 0] := by
          rw [List.append_assoc, List.take_succ_eq_append_getElem (by omega), List.getD_eq_getElem?_getD, List.getElem?_eq_getElem (by omega)]; rfl
        have hq : (l ++ x.take j).length ≤ 1000000 := by rw [List.length_append, List.length_take]; omega
        obtain ⟨b, eb⟩ : ∃ b, b = x.getD j 0 := ⟨_, rfl⟩
        rw [← eb] at hix EJ
        obtain ⟨y, ey⟩ : ∃ y, y = l ++ x.take j := ⟨_, rfl⟩
        rw [← ey] at M EJ hq
        replace EJ := Lib.hid EJ
        clear eb ey
        go_wp2_with ((first | (go_at_call 34; go_must (refine (Out_Byte_c _ _ y b _ (by omega) (M.ok 0 _ rfl)).mono ?_; rintro r w2 ⟨rfl, v2, U⟩; replace M := M.upd 0 rfl U; clear U; simp only [setC] at M)) | ((with_reducible refine tGuard ?_); refine w_strip rfl (by with_reducible rfl) ?_) | fail | ((with_reducible refine tLoad ?_); go_must (refine w_at _ _ rfl (by exact ev_tmp rfl) ?_; intro hx; (first | refine w_load M _ _ _ rfl (by first | exact at0) hx rfl (by decide +kernel) (by exact rfl) ?_ | refine w_loadR M _ _ _ rfl (by first | exact at0) hx rfl (by decide +kernel) (by kernel_rfl) ?_); clear hx)) | ((with_reducible refine tStore ?_); go_must (refine w_at2 _ _ _ rfl (by exact ev_tmp rfl) (by first | exact ev_tmp rfl | exact ev_const) ?_; intro hx hy; (first | refine w_store M _ _ _ _ rfl (by first | exact at0) hx rfl hy rfl rfl (by decide +kernel) (by first | decide | simp | (simp; omega)) ?_ | refine w_storeR M _ _ _ _ rfl (by first | exact at0) hx rfl _ hy rfl (by kernel_rfl) (by simp [Value.oneCell']) (by first | rfl | assumption) ?_); clear hx hy M; intro w1 M; (try simp only [setC] at M))) | ((with_reducible refine tBox _ ?_); (refine w_box M _ _ rfl rfl _ rfl _ rfl ?_; clear M; intro g w1 M))) <;> (try conv => arg 5; simp only [Act.put, List.setIfInBounds_toArray, setC]))
        go_roundw
        case rel => exact ⟨j + 1, _, by omega, by go_num, by rw [EJ.out]; exact M⟩
        case measure => simp [intOf]; omega
      · obtain rfl : j = 32 := by omega
        rw [List.take_of_length_le (by omega)] at M
        go_wp2_with fail
        go_ret
        exact ⟨rfl, _, M.upd1 0 rfl⟩
set_option maxRecDepth 100000 in
set_option maxHeartbeats 8000000 in
theorem hashGet_c (q : Hf) (gm g1 gi : Nat) (m : Ms) (x : InS) (F : List Nat) (w : World) (hm : m.fit) (hf : x.fit) (M : Mem F w w [.row gi (inV x), .row gm (msgC m)])
    (B1 : (Chunk.row g1 [.func (.func (hfFn q)) #[] #[]]).ok w) (n1 : g1 ∉ F) :
    Calls Try.prog 72 #[.pointer (some ⟨gi, 0, none⟩), .pointer (some ⟨gm, 0, none⟩), .pointer (some ⟨g1, 0, none⟩)] w fun e w' => e = .returned (.int .i64 0) ∧ Mem F w w' [.row gi (inV (hashS (q.get m) x 32).1), .row gm (msgC (q.set m (hashS (q.get m) x 32).2))] := by
  have h0 := q.len hm
  obtain ⟨S, eS⟩ : ∃ S, S = hashS (q.get m) x := ⟨_, rfl⟩
  have s0 : (S 0).1 = x := by rw [eS]; rfl
  have sf : ∀ n, (S n).1.fit := fun n => by rw [eS]; exact hashS_fit _ hf n
  have sn : ∀ n, (S (n + 1)).1 = (S n).1.byte.2 := fun n => by rw [eS]; rfl
  obtain ⟨T, eT⟩ : ∃ T : Nat → Ms, T = fun n => q.set m (S n).2 := ⟨_, rfl⟩
  have t0 : T 0 = m := by rw [eT, eS]; exact q.set_get
  have tf : ∀ n, (T n).fit := fun n => by rw [eT, eS]; exact q.set_fit hm (hashS_len h0 x n)
  have tn : ∀ n (b : UInt8), (S n).1.byte.1 = b.toNat → q.set (T n) ((q.get (T n)).set n b) = T (n + 1) := fun n b hb => by
    rw [eT]
    simp only
    rw [Hf.get_set, Hf.set_set, eS, hashS_succ, ← eS, hb, UInt8.ofNat_toNat]
  have EX : q.set m (S 32).2 = T 32 := by rw [eT]
  rw [← eS, EX]
  rw [← s0, ← t0] at M
  clear eS eT EX s0 t0 hf hm h0
  replace sf := Lib.hid sf
  replace sn := Lib.hid sn
  replace tf := Lib.hid tf
  replace tn := Lib.hid tn
  cases q
  all_goals
    simp only [hfFn] at B1
    go_enter Try.func72, Try.ntmps72
    go_wp2_with ((first | ((with_reducible refine tLoad ?_); go_must (refine w_at _ _ rfl (by exact ev_tmp rfl) ?_; intro hx; (first | refine w_rowF M B1 n1 _ _ rfl hx rfl (by decide +kernel) rfl ?_); clear hx)) | ((first | (go_at_call 49; refine (at7F_c _ _).mono ?_) | (go_at_call 50; refine (at8F_c _ _).mono ?_) | (go_at_call 51; refine (at9F_c _ _).mono ?_)); rintro e w1 ⟨rfl, rfl⟩) | ((with_reducible refine tGuard ?_); refine w_strip rfl (by with_reducible rfl) ?_) | fail | ((with_reducible refine tLoad ?_); go_must (refine w_at _ _ rfl (by exact ev_tmp rfl) ?_; intro hx; (first | refine w_load M _ _ _ rfl (by first | exact at0) hx rfl (by decide +kernel) (by exact rfl) ?_ | refine w_loadR M _ _ _ rfl (by first | exact at0) hx rfl (by decide +kernel) (by kernel_rfl) ?_); clear hx)) | ((with_reducible refine tStore ?_); go_must (refine w_at2 _ _ _ rfl (by exact ev_tmp rfl) (by first | exact ev_tmp rfl | exact ev_const) ?_; intro hx hy; (first | refine w_store M _ _ _ _ rfl (by first | exact at0) hx rfl hy rfl rfl (by decide +kernel) (by first | decide | simp | (simp; omega)) ?_ | refine w_storeR M _ _ _ _ rfl (by first | exact at0) hx rfl _ hy rfl (by kernel_rfl) (by simp [Value.oneCell']) (by first | rfl | assumption) ?_); clear hx hy M; intro w1 M; (try simp only [setC] at M))) | ((with_reducible refine tBox _ ?_); (refine w_box M _ _ rfl rfl _ rfl _ rfl ?_; clear M; intro g w1 M))) <;> (try conv => arg 5; simp only [Act.put, List.setIfInBounds_toArray, setC]))
    go_loopw [11] (fun iv wr => ∃ j : Nat, j ≤ 32 ∧ iv = .int .i64 j ∧ Mem F w wr [.row gi (inV (S j).1), .row gm (msgC (T j))]) (fun iv _ => 32 - (intOf iv).toNat)
    case atStart => exact ⟨0, by omega, rfl, M⟩
    case round =>
      clear M
      obtain ⟨j, hj, rfl, M⟩ := hrel
      by_cases hlt : j < 32
      · obtain ⟨b, hb⟩ := byte_some (S j).1
        have TN := tn.out j b hb
        have hfit := tf.out j
        have YC := fun g (w : World) h => In_Byte_c g (S j).1 w h (sf.out j)
        rw [hb, ← I8_eq, ← sn.out j] at YC
        obtain ⟨y, ey⟩ : ∃ y, y = (S j).1 := ⟨_, rfl⟩
        obtain ⟨z, ez⟩ : ∃ z, z = (S (j + 1)).1 := ⟨_, rfl⟩
        obtain ⟨mj, emj⟩ : ∃ mj, mj = T j := ⟨_, rfl⟩
        rw [← ey] at M YC
        rw [← ez] at YC
        rw [← emj] at M hfit TN
        have EZ := Lib.hid fun _ : Unit => ez
        replace TN := Lib.hid TN
        replace YC := Lib.hid YC
        clear ey ez emj hb
        go_wp2_with ((first | ((with_reducible show Code.wp _ (Code.region 5 _ _) _ _ _); go_must (refine region_det [(0, false), (1, false), (2, false), (4, false), (3, true), (5, false), (6, true)] [(14, .ptr)] (by kernel_rfl) (by kernel_rfl) rfl (by kernel_rfl) ?_; replace M := M.drew; simp only [reord, opAt, List.map_cons, List.map_nil, List.getElem?_toArray, List.getElem?_cons_zero, List.getElem?_cons_succ, Option.getD_some])) | (go_at_call 22; go_must (refine (YC.out _ _ (M.ok 0 _ rfl)).mono ?_; rintro r w2 ⟨rfl, U⟩; replace M := M.upd 0 rfl U; clear U; simp only [setC] at M)) | ((with_reducible refine tStore ?_); go_must (refine w_at2 _ _ _ rfl (by exact ev_tmp rfl) (by first | exact ev_tmp rfl | exact ev_const) ?_; intro hx hy; (first | refine w_storeHb M 1 _ _ _ rfl rfl hx rfl hy (by decide +kernel) hfit .r j rfl hlt ?_ | refine w_storeHb M 1 _ _ _ rfl rfl hx rfl hy (by decide +kernel) hfit .lf j rfl hlt ?_ | refine w_storeHb M 1 _ _ _ rfl rfl hx rfl hy (by decide +kernel) hfit .rt j rfl hlt ?_); clear hx hy M; intro w1 M; (try simp only [setC] at M))) | ((with_reducible show Seg _ _ _ _); go_must (first | refine Seg.intro ⟨fun h => absurd rfl h, ?_⟩ | refine Seg.intro ⟨fun _ => (by repeat' (first | exact ixOk_nil M.kept | refine ixOk_cons rfl (by first | exact M.ok 0 _ rfl | exact M.ok 1 _ rfl) ?_)), ?_⟩ | refine Seg.intro ⟨(by repeat' (first | (with_reducible exact needs_nil) | refine needs_at rfl (by first | (show Shape.ok Shape.nums _ = true; exact nums_bs _) | rfl) ?_)), (by repeat' (first | (with_reducible exact ats_nil) | refine ats_cons (by first | exact ev_tmp rfl | rfl) ?_)), ?_⟩)) | ((with_reducible show OnlyN _ _ _ _ _); refine OnlyN.intro (by kernel_rfl) ?_) | ((with_reducible refine tGuard ?_); refine w_strip rfl (by with_reducible rfl) ?_) | fail | ((with_reducible refine tLoad ?_); go_must (refine w_at _ _ rfl (by exact ev_tmp rfl) ?_; intro hx; (first | refine w_load M _ _ _ rfl rfl hx rfl (by decide +kernel) (by exact rfl) ?_ | refine w_loadR M _ _ _ rfl rfl hx rfl (by decide +kernel) (by kernel_rfl) ?_); clear hx)) | ((with_reducible refine tStore ?_); go_must (refine w_at2 _ _ _ rfl (by exact ev_tmp rfl) (by first | exact ev_tmp rfl | exact ev_const) ?_; intro hx hy; (first | refine w_store M _ _ _ _ rfl rfl hx rfl hy rfl rfl (by decide +kernel) (by first | decide | simp | (simp; omega)) ?_ | refine w_storeR M _ _ _ _ rfl rfl hx rfl _ hy rfl (by kernel_rfl) (by simp [Value.oneCell']) (by first | rfl | assumption) ?_); clear hx hy M; intro w1 M; (try simp only [setC] at M))) | ((with_reducible refine tBox _ ?_); (refine w_box M _ _ rfl rfl _ rfl _ rfl ?_; clear M; intro g w1 M))) <;> (try conv => arg 5; simp only [Act.put, List.setIfInBounds_toArray, setC]))
        go_roundw
        case rel => exact ⟨j + 1, by omega, by go_num, by rw [← EZ.out (), ← TN.out]; exact M⟩
        case measure => simp [intOf]; omega
      · obtain rfl : j = 32 := by omega
        go_wp2_with fail
        go_ret
        exact ⟨rfl, M⟩
end Go.Proofs.Ytoaabclemeibhaa

/- Plain definitions of layer 18 (msg): a message, its fields, how they are written and read. No program in this text. No conditions but those each lemma names. -/
namespace Go
namespace TL
open Go.RowKit
structure Lm where
  k : UInt8
  e : Int
  a : Int
  o : Int
  bi : Int
  be : Int
  ops : List Opr
  p : Int
  r : List UInt8
  v : Int
  i : Int
  lf : List UInt8
  rt : List UInt8
  prs : List (List UInt8 × List UInt8)
  deriving DecidableEq
def Lm.ms (L : Lm) (ov pv : Value) : Ms := ⟨L.k, L.e, L.a, L.o, L.bi, L.be, ov, L.p, L.r, L.v, L.i, L.lf, L.rt, pv⟩
def Lm.fit (L : Lm) : Prop := L.r.length = 32 ∧ L.lf.length = 32 ∧ L.rt.length = 32
def zeroL : Lm := ⟨0, 0, 0, 0, 0, 0, [], 0, zeroH, 0, 0, zeroH, zeroH, []⟩
theorem zeroL_fit : zeroL.fit := ⟨zeroH_len, zeroH_len, zeroH_len⟩
def kindL (k : UInt8) : Lm := ⟨k, 0, 0, 0, 0, 0, [], 0, zeroH, 0, 0, zeroH, zeroH, []⟩
theorem kindL_fit (k : UInt8) : (kindL k).fit := ⟨zeroH_len, zeroH_len, zeroH_len⟩
def kindM (k : UInt8) : Ms := ⟨k, 0, 0, 0, 0, 0, .slice none 0 0, 0, zeroH, 0, 0, zeroH, zeroH, .slice none 0 0⟩
theorem kindM_fit (k : UInt8) : (kindM k).fit := ⟨zeroH_len, zeroH_len, zeroH_len, rfl, rfl⟩
theorem zeroL_ms : zeroL.ms (.slice none 0 0) (.slice none 0 0) = zeroM := rfl
theorem Lm.ms_fit {L : Lm} (h : L.fit) {ov pv : Value} (ho : ov.oneCell' = true) (hp : pv.oneCell' = true) : (L.ms ov pv).fit := ⟨h.1, h.2.1, h.2.2, ho, hp⟩
def Mf.gl (L : Lm) : Mf → Int
  | .e => L.e | .a => L.a | .o => L.o | .p => L.p | .v => L.v | .i => L.i
def Mf.sl (L : Lm) (x : Int) : Mf → Lm
  | .e => { L with e := x } | .a => { L with a := x } | .o => { L with o := x } | .p => { L with p := x } | .v => { L with v := x } | .i => { L with i := x }
def Hf.gl (L : Lm) : Hf → List UInt8
  | .r => L.r | .lf => L.lf | .rt => L.rt
def Hf.sl (L : Lm) (x : List UInt8) : Hf → Lm
  | .r => { L with r := x } | .lf => { L with lf := x } | .rt => { L with rt := x }
theorem Mf.get_ms (L : Lm) (ov pv : Value) (q : Mf) : q.get (L.ms ov pv) = q.gl L := by cases q <;> rfl
theorem Mf.set_ms (L : Lm) (ov pv : Value) (x : Int) (q : Mf) : q.set (L.ms ov pv) x = (q.sl L x).ms ov pv := by cases q <;> rfl
theorem Hf.get_ms (L : Lm) (ov pv : Value) (q : Hf) : q.get (L.ms ov pv) = q.gl L := by cases q <;> rfl
theorem Hf.set_ms (L : Lm) (ov pv : Value) (x : List UInt8) (q : Hf) : q.set (L.ms ov pv) x = (q.sl L x).ms ov pv := by cases q <;> rfl
theorem Mf.sl_fit {L : Lm} (h : L.fit) (x : Int) (q : Mf) : (q.sl L x).fit := by cases q <;> exact h
theorem Hf.sl_fit {L : Lm} (h : L.fit) {x : List UInt8} (hx : x.length = 32) (q : Hf) : (q.sl L x).fit := by
  obtain ⟨h1, h2, h3⟩ := h
  cases q
  · exact ⟨hx, h2, h3⟩
  · exact ⟨h1, hx, h3⟩
  · exact ⟨h1, h2, hx⟩
theorem Hf.gl_len {L : Lm} (h : L.fit) (q : Hf) : (q.gl L).length = 32 := by
  obtain ⟨h1, h2, h3⟩ := h
  cases q <;> assumption
def Mf.most : Mf → Nat
  | .e => 9223372036854775807 | .a => 9223372036854775807 | .o => 9223372036854775807 | .p => 9223372036854775807 | .v => 4 | .i => 15
theorem Mf.most_le (q : Mf) : q.most ≤ 9223372036854775807 := by cases q <;> decide
inductive Fld where
  | num (q : Mf)
  | hash (q : Hf)
  | bat
  | prs
def fdsL (k : UInt8) : List Fld :=
  if k = 1 then [.num .e] else if k = 2 then [.num .e, .num .p, .bat] else if k = 3 then [.num .e, .num .a, .num .o]
  else if k = 4 then [.num .e, .num .a, .num .o, .hash .r] else if k = 5 then [.num .e, .num .a, .num .v, .num .i]
  else if k = 6 then [.num .e, .num .a, .num .v, .num .i, .hash .lf, .hash .rt] else if k = 7 then [.num .e, .num .a, .num .i, .prs] else []
def isK (k : UInt8) : Bool := decide (1 ≤ k.toNat ∧ k.toNat ≤ 7)
theorem kinds {k : UInt8} (h : isK k = true) : k = 1 ∨ k = 2 ∨ k = 3 ∨ k = 4 ∨ k = 5 ∨ k = 6 ∨ k = 7 := by
  unfold isK at h
  have h := of_decide_eq_true h
  have hk : k = UInt8.ofNat k.toNat := UInt8.ofNat_toNat.symm
  have : k.toNat = 1 ∨ k.toNat = 2 ∨ k.toNat = 3 ∨ k.toNat = 4 ∨ k.toNat = 5 ∨ k.toNat = 6 ∨ k.toNat = 7 := by omega
  rcases this with e | e | e | e | e | e | e <;> (rw [e] at hk; subst hk; decide)
theorem fds_len (k : UInt8) : (fdsL k).length ≤ 6 := by
  unfold fdsL
  repeat' split
  all_goals decide
/-! ### Fields that are written -/
def prB (x : List UInt8 × List UInt8) : List UInt8 := textL x.1 ++ textL x.2
def okP (x : List UInt8 × List UInt8) : Bool := decide (x.1.length ≤ 33) && decide (x.2.length ≤ 32)
def Fld.ok (L : Lm) : Fld → Bool
  | .num q => decide (0 ≤ q.gl L ∧ q.gl L ≤ q.most)
  | .hash _ => true
  | .bat => ((bytesB L.bi L.be L.ops).2 == 0) && decide ((bytesB L.bi L.be L.ops).1.length ≤ 512)
  | .prs => decide (L.prs.length ≤ 48) && L.prs.all okP
def Fld.put (L : Lm) : Fld → List UInt8
  | .num q => numL (q.gl L).toNat
  | .hash q => q.gl L
  | .bat => textL (bytesB L.bi L.be L.ops).1
  | .prs => numL L.prs.length ++ L.prs.flatMap prB
/-! ### Fields that are read -/
def prS (x0 : InS) : Nat → List (List UInt8 × List UInt8) × InS
  | 0 => ([], x0)
  | n + 1 => ((prS x0 n).1 ++ [(((prS x0 n).2.text 33).1, (((prS x0 n).2.text 33).2.text 32).1)], (((prS x0 n).2.text 33).2.text 32).2)
theorem prS_zero (x0 : InS) : prS x0 0 = ([], x0) := rfl
theorem prS_succ (x0 : InS) (n : Nat) : prS x0 (n + 1) = ((prS x0 n).1 ++ [(((prS x0 n).2.text 33).1, (((prS x0 n).2.text 33).2.text 32).1)], (((prS x0 n).2.text 33).2.text 32).2) := rfl
theorem prS_len (x0 : InS) : ∀ n, (prS x0 n).1.length = n
  | 0 => rfl
  | n + 1 => by rw [prS_succ, List.length_append, prS_len x0 n]; rfl
theorem prS_fit {x0 : InS} (h : x0.fit) : ∀ n, (prS x0 n).2.fit
  | 0 => h
  | n + 1 => InS.text_fit (InS.text_fit (prS_fit h n) 33) 32
def Fld.get (L : Lm) (x : InS) : Fld → Nat × Lm × InS
  | .num q => (0, q.sl L ((x.most q.most).1 : Int), (x.most q.most).2)
  | .hash q => (0, q.sl L (hashS (q.gl L) x 32).2, (hashS (q.gl L) x 32).1)
  | .bat => if (x.text 512).2.err = 0 then ((readB (x.text 512).1).2, { L with bi := (readB (x.text 512).1).1.1, be := (readB (x.text 512).1).1.2.1, ops := (readB (x.text 512).1).1.2.2 }, (x.text 512).2)
    else ((x.text 512).2.err, L, (x.text 512).2)
  | .prs => (0, { L with prs := L.prs ++ (prS (x.most 48).2 (x.most 48).1).1 }, (prS (x.most 48).2 (x.most 48).1).2)
theorem Lm.fit_bat {L : Lm} (h : L.fit) (a b : Int) (c : List Opr) : Lm.fit { L with bi := a, be := b, ops := c } := h
theorem Lm.fit_prs {L : Lm} (h : L.fit) (c : List (List UInt8 × List UInt8)) : Lm.fit { L with prs := c } := h
theorem Fld.get_fit {L : Lm} {x : InS} (h : L.fit) (hx : x.fit) (f : Fld) : (f.get L x).2.1.fit ∧ (f.get L x).2.2.fit := by
  cases f with
  | num q => exact ⟨q.sl_fit h _, InS.most_fit hx _⟩
  | hash q =>
    have h1 := hashS_len (q.gl_len h) x 32
    have h2 := hashS_fit (q.gl L) hx 32
    simp only [Fld.get]
    generalize hashS (q.gl L) x 32 = z at h1 h2 ⊢
    exact ⟨q.sl_fit h h1, h2⟩
  | bat =>
    have h1 := InS.text_fit hx 512
    simp only [Fld.get]
    generalize x.text 512 = z at h1 ⊢
    generalize readB z.1 = y
    split
    · exact ⟨Lm.fit_bat h _ _ _, h1⟩
    · exact ⟨h, h1⟩
  | prs =>
    have h1 := InS.most_fit hx 48
    simp only [Fld.get]
    generalize x.most 48 = z at h1 ⊢
    have h2 := prS_fit h1 z.1
    generalize prS z.2 z.1 = y at h2 ⊢
    exact ⟨Lm.fit_prs h _, h2⟩
def Fld.say (t : Nat × Lm × InS) : Nat := if t.2.2.err = 0 then t.1 else t.2.2.err
def runF : List Fld → Lm → InS → Nat × Lm × InS
  | [], L, x => (0, L, x)
  | f :: l, L, x => if Fld.say (f.get L x) = 0 then runF l (f.get L x).2.1 (f.get L x).2.2 else (Fld.say (f.get L x), f.get L x |>.2)
def readM (s : List UInt8) : Lm × Nat :=
  let y := (inStart s).byte
  if y.2.err = 0 then
    if isK (UInt8.ofNat y.1) = true then
      let t := runF (fdsL (UInt8.ofNat y.1)) (kindL (UInt8.ofNat y.1)) y.2
      if t.1 = 0 then (if t.2.2.fin = 0 then (t.2.1, 0) else (zeroL, t.2.2.fin)) else (zeroL, t.1)
    else (zeroL, 10)
  else (zeroL, y.2.err)
def bytesM (L : Lm) : List UInt8 × Nat :=
  if isK L.k = true then
    if (fdsL L.k).all (fun f => f.ok L) = true ∧ readM (L.k :: (fdsL L.k).flatMap (fun f => f.put L)) = (L, 0) then (L.k :: (fdsL L.k).flatMap (fun f => f.put L), 0)
    else ([], 1)
  else ([], 10)
end TL
end Go

/- The walk of path.named. Conditions: lengths. -/
namespace Go
namespace TL
theorem goodN_of {b : UInt8} (h1 : ¬ I8 b < 97) (h2 : ¬ 122 < I8 b) : goodN b = true := by rw [I8_eq] at h1 h2; simp [goodN]; omega
theorem badN_lo {b : UInt8} (h1 : I8 b < 97) : goodN b = false := by rw [I8_eq] at h1; simp [goodN]; omega
theorem badN_hi {b : UInt8} (h1 : 122 < I8 b) : goodN b = false := by rw [I8_eq] at h1; simp [goodN]; omega
theorem goodK_of {b : UInt8} (h1 : ¬ I8 b = 0) (h2 : ¬ I8 b = 47) : goodK b = true := by rw [I8_eq] at h1 h2; simp [goodK]; omega
theorem badK_0 {b : UInt8} (h1 : I8 b = 0) : goodK b = false := by rw [I8_eq] at h1; simp [goodK]; omega
theorem badK_47 {b : UInt8} (h1 : I8 b = 47) : goodK b = false := by rw [I8_eq] at h1; simp [goodK]; omega
end TL
end Go
namespace Go.Proofs.Ytoaabclemeibhaa
open Go.RowKit Go.TL
set_option maxRecDepth 100000 in
set_option maxHeartbeats 2000000 in
theorem named_c (s : List UInt8) (w : World) (hs : s.length ≤ 1000000000) :
    Calls Try.prog 92 #[.string (mkS s)] w fun e w' => e = .returned (.bool (namedL s)) ∧ w = w' := by
  have hbad : ∀ k, k < s.length → goodN (s.getD k 0) = false → namedL s = false := fun k h hb => named_bad h hb
  have hgood : (∀ k, k < s.length → goodN (s.getD k 0) = true) → namedL s = decide (1 ≤ s.length ∧ s.length ≤ 8) := named_good
  obtain ⟨N, eN⟩ : ∃ N, N = namedL s := ⟨_, rfl⟩
  rw [← eN] at hbad hgood ⊢
  have HB := Lib.hid hbad
  have HG := Lib.hid hgood
  clear eN hbad hgood
  go_enter Try.func92, Try.ntmps92
  go_wp2_with fail
  go_loop [6] (fun iv => ∃ k : Nat, k ≤ s.length ∧ iv = .int .i64 k ∧ Hid (∀ j, j < k → goodN (s.getD j 0) = true)) (fun iv => s.length - (intOf iv).toNat)
  case atStart => exact ⟨0, by omega, rfl, Lib.hid (by omega)⟩
  case round =>
    obtain ⟨k, hk, rfl, HK⟩ := hrel
    by_cases hlt : k < s.length
    · by_cases h1 : I8 (bt s k) < 97
      · have e : N = false := HB.out k hlt (badN_lo h1)
        subst e
        go_wp2_with fail
        go_ret
        exact ⟨rfl, rfl⟩
      · by_cases h2 : 122 < I8 (bt s k)
        · have e : N = false := HB.out k hlt (badN_hi h2)
          subst e
          replace h1 : 97 ≤ I8 (bt s k) := by omega
          go_wp2_with fail
          go_ret
          exact ⟨rfl, rfl⟩
        · have hg := Lib.hid (goodN_of h1 h2)
          replace h1 : 97 ≤ I8 (bt s k) := by omega
          replace h2 : I8 (bt s k) ≤ 122 := by omega
          go_wp2_with fail
          go_round
          case rel => exact ⟨k + 1, by omega, by go_num, Lib.hid fun j hj => by
            rcases Nat.lt_succ_iff_lt_or_eq.1 hj with hj | rfl
            · exact HK.out j hj
            · exact hg.out⟩
          case measure => simp [intOf]; omega
    · obtain rfl : k = s.length := by omega
      have e : N = decide (1 ≤ s.length ∧ s.length ≤ 8) := HG.out HK.out
      by_cases hl : 1 ≤ s.length ∧ s.length ≤ 8
      · rw [decide_eq_true hl] at e
        subst e
        obtain ⟨hl1, hl2⟩ := hl
        go_wp2_with fail
        go_ret
        exact ⟨by first | rfl | (simp <;> omega), rfl⟩
      · rw [decide_eq_false hl] at e
        subst e
        go_wp2_with fail
        all_goals
          go_ret
          exact ⟨by first | rfl | (simp <;> omega), rfl⟩
end Go.Proofs.Ytoaabclemeibhaa

/- The walks of package path's named, key and Cut, and of the reference's. Conditions: lengths. -/
namespace Go.Proofs.Ytoaabclemeibhaa
open Go.RowKit Go.TL
set_option maxRecDepth 100000 in
set_option maxHeartbeats 2000000 in
theorem key_c (s : List UInt8) (w : World) (hs : s.length ≤ 1000000000) :
    Calls Try.prog 93 #[.string (mkS s)] w fun e w' => e = .returned (.bool (pkeyL s)) ∧ w = w' := by
  have C : ∀ c : UInt8, Calls Try.prog 95 #[.string (mkS s), .int .u8 (c.toNat : Int)] w fun e w' => e = .returned (.int .i64 (Lib.indexByte s c)) ∧ w = w' := fun c =>
    (Go.Proofs.Try.strings_IndexByte (mkS s) c.toNat w).mono fun _ _ ⟨a, b⟩ => ⟨by rw [a, mkS_data]; simp, b.symm⟩
  have C0 := Lib.hid (C 0)
  have C47 := Lib.hid (C 47)
  clear C
  by_cases hl : 1 ≤ s.length ∧ s.length ≤ 24
  · rw [pkey_index s hl]
    obtain ⟨i0, e0⟩ : ∃ i, i = Lib.indexByte s 0 := ⟨_, rfl⟩
    obtain ⟨i4, e4⟩ : ∃ i, i = Lib.indexByte s 47 := ⟨_, rfl⟩
    rw [← e0] at C0 ⊢
    rw [← e4] at C47 ⊢
    clear e0 e4
    obtain ⟨hl1, hl2⟩ := hl
    by_cases h0 : i0 < 0
    all_goals
      go_enter Try.func93, Try.ntmps93
      go_wp2_with ((go_at_call 95; go_must ((first | refine (C0.out).mono ?_ | refine (C47.out).mono ?_); rintro e w1 ⟨rfl, rfl⟩)))
      go_ret
      exact ⟨by first | rfl | (simp [h0]; done) | (simp <;> omega), rfl⟩
  · rw [pkey_len hl]
    go_enter Try.func93, Try.ntmps93
    go_wp2_with fail
    all_goals
      go_ret
      exact ⟨rfl, rfl⟩
set_option maxRecDepth 100000 in
set_option maxHeartbeats 2000000 in
theorem sliteCut_c (p : List UInt8) (w : World) (hp : p.length ≤ 1000000000) :
    Calls Try.prog 94 #[.string (mkS p), .string (mkS [47])] w fun e w' => e = .returned (.tuple #[.string (mkS (scutL p).1), .string (mkS (scutL p).2.1), .bool (scutL p).2.2]) ∧ Below w.heap.size w w' := by
  have I : Calls Try.prog 96 #[.string (mkS p), .string (mkS [47])] w fun e w' => e = .returned (.int .i64 (if slash p < p.length then (slash p : Int) else -1)) ∧ w = w' :=
    (Go.Proofs.Try.stringslite_Index_one (mkS p) 47 w).mono fun _ _ ⟨a, b⟩ => ⟨by rw [a, mkS_data, indexByte_slash], b.symm⟩
  have M := Mem.start [] w
  have hsl := slash_le p
  obtain ⟨C, eC⟩ : ∃ C, C = scutL p := ⟨_, rfl⟩
  rw [← eC]
  by_cases h : slash p < p.length
  · rw [if_pos h] at I
    rw [scut_yes h] at eC
    have I := Lib.hid I
    subst eC
    go_enter Try.func94, Try.ntmps94
    go_wp2_with ((first | (go_at_call 96; go_must (refine (I.out).mono ?_; rintro e w1 ⟨rfl, rfl⟩)) | ((with_reducible show Code.wp _ (Code.region 3 _ _) _ _ _); go_must (refine region_det [(0, false), (1, false), (2, false), (3, false), (4, false), (5, false), (6, false), (7, false), (8, false), (9, false), (10, false), (11, false)] [(17, .int), (19, .int)] (by kernel_rfl) (by kernel_rfl) rfl (by kernel_rfl) ?_; replace M := M.drew; simp only [reord, opAt, List.map_cons, List.map_nil, List.getElem?_toArray, List.getElem?_cons_zero, List.getElem?_cons_succ, Option.getD_some])) | ((with_reducible show Seg _ _ _ _); go_must (first | refine Seg.intro ⟨fun h => absurd rfl h, ?_⟩ | refine Seg.intro ⟨fun _ => (by repeat' (first | exact ixOk_nil M.kept | refine ixOk_cons rfl (by first | exact M.ok 0 _ rfl | exact M.ok 1 _ rfl | exact M.ok 2 _ rfl) ?_)), ?_⟩ | refine Seg.intro ⟨(by repeat' (first | (with_reducible exact needs_nil) | refine needs_at rfl (by first | (show Shape.ok Shape.nums _ = true; exact nums_bs _) | rfl) ?_)), (by repeat' (first | (with_reducible exact ats_nil) | refine ats_cons (by first | exact ev_tmp rfl | rfl) ?_)), ?_⟩)) | ((with_reducible show OnlyN _ _ _ _ _); refine OnlyN.intro (by kernel_rfl) ?_) | ((with_reducible refine tGuard ?_); first | refine w_strip rfl (by with_reducible rfl) ?_ | ((fail_if_success (refine w_lit false rfl (by with_reducible rfl) ?_)); (fail_if_success (refine w_lit true rfl (by with_reducible rfl) ?_)); refine w_case rfl ?_ ?_ <;> (intro hgd; rw [hgd]; try (exfalso; simp at hgd; omega)))) | ((with_reducible refine tConv _ 41 9 ?_); go_must (first | refine w_stringW M _ _ _ _ _ rfl rfl (by first | exact at0) rfl (by first | assumption | exact lenI | exact lenS ‹_› | rfl) (by decide) Try.underlying41 Try.underlying5 Try.underlying9 ?_ | refine w_string M _ _ _ _ _ rfl rfl (by first | exact at0) (by first | rfl | (simp; done) | assumption) rfl Try.underlying41 Try.underlying5 Try.underlying9 ?_)) | ((with_reducible refine tLoad ?_); go_must (refine w_at _ _ rfl (by exact ev_tmp rfl) ?_; intro hx; (first | refine w_load M _ _ _ rfl (by first | exact at0) hx rfl (by decide +kernel) (by exact rfl) ?_ | refine w_loadB M _ _ _ rfl (by first | exact at0) hx rfl (by decide +kernel) (by first | assumption | omega | (simp; omega)) ?_ | refine w_loadH M _ _ _ rfl (by first | exact at0) hx rfl (by decide +kernel) (by first | assumption | exact lenI | exact lenS ‹_› | rfl) (by decide +kernel) ?_ | refine w_loadR M _ _ _ rfl (by first | exact at0) hx rfl (by decide +kernel) (by kernel_rfl) ?_); clear hx)) | ((with_reducible refine tStore ?_); go_must (refine w_at2 _ _ _ rfl (by exact ev_tmp rfl) (by first | exact ev_tmp rfl | exact ev_const) ?_; intro hx hy; (first | refine w_storeB M _ _ _ _ rfl (by first | exact at0) hx rfl hy (by decide +kernel) (by first | assumption | omega | (simp; omega)) ?_ | refine w_storeH M _ _ _ _ rfl (by first | exact at0) hx rfl hy (by first | assumption | exact lenI | exact lenS ‹_› | rfl) (by decide +kernel) (by first | assumption | exact lenI | exact lenS ‹_› | rfl) ?_ | refine w_store M _ _ _ _ rfl (by first | exact at0) hx rfl hy rfl rfl (by decide +kernel) (by first | decide | simp | (simp; omega)) ?_ | refine w_storeR M _ _ _ _ rfl (by first | exact at0) hx rfl _ hy rfl (by kernel_rfl) (by simp [Value.oneCell']) (by first | rfl | assumption) ?_); clear hx hy M; intro w1 M; (try simp only [setC] at M))) | ((with_reducible refine tBox _ ?_); (refine w_box M _ _ rfl rfl _ rfl _ rfl ?_; clear M; intro g w1 M))) <;> (try conv => arg 5; simp only [Act.put, List.setIfInBounds_toArray, setC]))
    go_ret3
    exact ⟨rfl, M.below⟩
  · rw [if_neg h] at I
    rw [scut_no h] at eC
    have I := Lib.hid I
    subst eC
    go_enter Try.func94, Try.ntmps94
    go_wp2_with (first | (go_at_call 96; go_must (refine (I.out).mono ?_; rintro e w1 ⟨rfl, rfl⟩)))
    go_ret3
    exact ⟨rfl, M.below⟩
set_option maxRecDepth 100000 in
set_option maxHeartbeats 2000000 in
theorem strCut_c (p : List UInt8) (w : World) (hp : p.length ≤ 1000000000) :
    Calls Try.prog 91 #[.string (mkS p), .string (mkS [47])] w fun e w' => e = .returned (.tuple #[.string (mkS (scutL p).1), .string (mkS (scutL p).2.1), .bool (scutL p).2.2]) ∧ Below w.heap.size w w' := by
  have M := Mem.start [] w
  go_enter Try.func91, Try.ntmps91
  go_wp2_with ((go_at_call 94; go_must (refine (sliteCut_c p _ hp).mono ?_; rintro e w1 ⟨rfl, hb⟩; replace M := M.call hb; clear hb)))
  go_ret3
  exact ⟨rfl, M.below⟩
set_option maxRecDepth 100000 in
set_option maxHeartbeats 2000000 in
theorem Cut_c (p : List UInt8) (w : World) (hp : p.length ≤ 1000000000) :
    Calls Try.prog 90 #[.string (mkS p)] w fun e w' => e = .returned (.tuple #[.string (mkS (cutL p).1), .string (mkS (cutL p).2.1), .bool (cutL p).2.2]) ∧ Below w.heap.size w w' := by
  have M := Mem.start [] w
  have hsl := slash_le p
  obtain ⟨C, eC⟩ : ∃ C, C = cutL p := ⟨_, rfl⟩
  rw [← eC]
  unfold cutL at eC
  have S : Calls Try.prog 91 #[.string (mkS p), .string (mkS [47])] w fun e w' => e = .returned (.tuple #[.string (mkS (scutL p).1), .string (mkS (scutL p).2.1), .bool (scutL p).2.2]) ∧ Below w.heap.size w w' := strCut_c p w hp
  by_cases h : slash p < p.length
  · rw [scut_yes h] at S
    have S := Lib.hid S
    obtain ⟨a, ea⟩ : ∃ a, a = p.take (slash p) := ⟨_, rfl⟩
    obtain ⟨b, eb⟩ : ∃ b, b = p.drop (slash p + 1) := ⟨_, rfl⟩
    have la : a.length ≤ 1000000000 := by rw [ea]; simp; omega
    have lb : b.length ≤ 1000000000 := by rw [eb]; simp; omega
    rw [← ea, ← eb] at S eC
    clear ea eb
    have N : ∀ w, Calls Try.prog 92 #[.string (mkS a)] w fun e w' => e = .returned (.bool (namedL a)) ∧ w = w' := fun w => named_c a w la
    have K : ∀ w, Calls Try.prog 93 #[.string (mkS b)] w fun e w' => e = .returned (.bool (pkeyL b)) ∧ w = w' := fun w => key_c b w lb
    by_cases hn : namedL a = true
    · by_cases hk : pkeyL b = true
      · rw [if_pos ⟨h, hn, hk⟩] at eC
        rw [hn] at N; rw [hk] at K
        have N := Lib.hid N; have K := Lib.hid K
        subst eC
        go_enter Try.func90, Try.ntmps90
        go_wp2_with (first | (go_at_call 91; go_must (refine (S.out).mono ?_; rintro e w1 ⟨rfl, hb⟩; replace M := M.call hb; clear hb)) | (go_at_call 92; go_must (refine (N.out _).mono ?_; rintro e w1 ⟨rfl, rfl⟩)) | (go_at_call 93; go_must (refine (K.out _).mono ?_; rintro e w1 ⟨rfl, rfl⟩)))
        go_ret3
        exact ⟨rfl, M.below⟩
      · rw [if_neg (fun x => hk x.2.2)] at eC
        rw [hn] at N; rw [Bool.not_eq_true] at hk; rw [hk] at K
        have N := Lib.hid N; have K := Lib.hid K
        subst eC
        go_enter Try.func90, Try.ntmps90
        go_wp2_with (first | (go_at_call 91; go_must (refine (S.out).mono ?_; rintro e w1 ⟨rfl, hb⟩; replace M := M.call hb; clear hb)) | (go_at_call 92; go_must (refine (N.out _).mono ?_; rintro e w1 ⟨rfl, rfl⟩)) | (go_at_call 93; go_must (refine (K.out _).mono ?_; rintro e w1 ⟨rfl, rfl⟩)))
        go_ret3
        exact ⟨rfl, M.below⟩
    · rw [if_neg (fun x => hn x.2.1)] at eC
      rw [Bool.not_eq_true] at hn; rw [hn] at N
      have N := Lib.hid N
      subst eC
      go_enter Try.func90, Try.ntmps90
      go_wp2_with (first | (go_at_call 91; go_must (refine (S.out).mono ?_; rintro e w1 ⟨rfl, hb⟩; replace M := M.call hb; clear hb)) | (go_at_call 92; go_must (refine (N.out _).mono ?_; rintro e w1 ⟨rfl, rfl⟩)))
      go_ret3
      exact ⟨rfl, M.below⟩
  · rw [scut_no h] at S
    have S := Lib.hid S
    rw [if_neg (fun x => h x.1)] at eC
    subst eC
    go_enter Try.func90, Try.ntmps90
    go_wp2_with (first | (go_at_call 91; go_must (refine (S.out).mono ?_; rintro e w1 ⟨rfl, hb⟩; replace M := M.call hb; clear hb)))
    go_ret3
    exact ⟨rfl, M.below⟩
end Go.Proofs.Ytoaabclemeibhaa

/- The walk of the reference's layer 11 (path): Named. Conditions: lengths. -/
namespace Go.Proofs.Ytoaabclemeibhaa
open Go.RowKit Go.TL
set_option maxRecDepth 100000 in
set_option maxHeartbeats 2000000 in
theorem Named_c (s : List UInt8) (w : World) (hs : s.length ≤ 1000000000) :
    Calls Try.prog 84 #[.string (mkS s)] w fun e w' => e = .returned (.bool (namedL s)) ∧ w = w' := by
  by_cases hl : 1 ≤ s.length ∧ s.length ≤ 8
  · have hbad : ∀ k, k < s.length → goodN (s.getD k 0) = false → namedL s = false := fun k h hb => named_bad h hb
    have hgood : (∀ k, k < s.length → goodN (s.getD k 0) = true) → namedL s = true := fun h => by rw [named_good h, decide_eq_true hl]
    obtain ⟨N, eN⟩ : ∃ N, N = namedL s := ⟨_, rfl⟩
    rw [← eN] at hbad hgood ⊢
    have HB := Lib.hid hbad
    have HG := Lib.hid hgood
    clear eN hbad hgood
    obtain ⟨hl1, hl2⟩ := hl
    go_enter Try.func84, Try.ntmps84
    go_wp2_with fail
    go_loop [3] (fun iv => ∃ k : Nat, k ≤ s.length ∧ iv = .int .i64 k ∧ Hid (∀ j, j < k → goodN (s.getD j 0) = true)) (fun iv => s.length - (intOf iv).toNat)
    case atStart => exact ⟨0, by omega, rfl, Lib.hid (by omega)⟩
    case round =>
      obtain ⟨k, hk, rfl, HK⟩ := hrel
      by_cases hlt : k < s.length
      · by_cases h1 : I8 (bt s k) < 97
        · have e : N = false := HB.out k hlt (badN_lo h1)
          subst e
          go_wp2_with fail
          go_ret
          exact ⟨rfl, rfl⟩
        · by_cases h2 : 122 < I8 (bt s k)
          · have e : N = false := HB.out k hlt (badN_hi h2)
            subst e
            replace h1 : 97 ≤ I8 (bt s k) := by omega
            go_wp2_with fail
            go_ret
            exact ⟨rfl, rfl⟩
          · have hg := Lib.hid (goodN_of h1 h2)
            replace h1 : 97 ≤ I8 (bt s k) := by omega
            replace h2 : I8 (bt s k) ≤ 122 := by omega
            go_wp2_with fail
            go_round
            case rel => exact ⟨k + 1, by omega, by go_num, Lib.hid fun j hj => by
              rcases Nat.lt_succ_iff_lt_or_eq.1 hj with hj | rfl
              · exact HK.out j hj
              · exact hg.out⟩
            case measure => simp [intOf]; omega
      · obtain rfl : k = s.length := by omega
        have e : N = true := HG.out HK.out
        subst e
        go_wp2_with fail
        go_ret
        exact ⟨rfl, rfl⟩
  · rw [named_len hl]
    go_enter Try.func84, Try.ntmps84
    go_wp2_with fail
    all_goals
      go_ret
      exact ⟨rfl, rfl⟩
end Go.Proofs.Ytoaabclemeibhaa

/- The walks of the reference's layer 11 (path): Named, Key, Cut and Less. Conditions: lengths. -/
namespace Go.Proofs.Ytoaabclemeibhaa
open Go.RowKit Go.TL
set_option maxRecDepth 100000 in
set_option maxHeartbeats 2000000 in
theorem Key11_c (s : List UInt8) (w : World) (hs : s.length ≤ 1000000000) :
    Calls Try.prog 85 #[.string (mkS s)] w fun e w' => e = .returned (.bool (pkeyL s)) ∧ w = w' := by
  by_cases hl : 1 ≤ s.length ∧ s.length ≤ 24
  · have hbad : ∀ k, k < s.length → goodK (s.getD k 0) = false → pkeyL s = false := fun k h hb => pkey_bad h hb
    have hgood : (∀ k, k < s.length → goodK (s.getD k 0) = true) → pkeyL s = true := fun h => by rw [pkey_good h, decide_eq_true hl]
    obtain ⟨N, eN⟩ : ∃ N, N = pkeyL s := ⟨_, rfl⟩
    rw [← eN] at hbad hgood ⊢
    have HB := Lib.hid hbad
    have HG := Lib.hid hgood
    clear eN hbad hgood
    obtain ⟨hl1, hl2⟩ := hl
    go_enter Try.func85, Try.ntmps85
    go_wp2_with fail
    go_loop [3] (fun iv => ∃ k : Nat, k ≤ s.length ∧ iv = .int .i64 k ∧ Hid (∀ j, j < k → goodK (s.getD j 0) = true)) (fun iv => s.length - (intOf iv).toNat)
    case atStart => exact ⟨0, by omega, rfl, Lib.hid (by omega)⟩
    case round =>
      obtain ⟨k, hk, rfl, HK⟩ := hrel
      by_cases hlt : k < s.length
      · by_cases h1 : I8 (bt s k) = 0
        · have e : N = false := HB.out k hlt (badK_0 h1)
          subst e
          go_wp2_with fail
          go_ret
          exact ⟨rfl, rfl⟩
        · by_cases h2 : I8 (bt s k) = 47
          · have e : N = false := HB.out k hlt (badK_47 h2)
            subst e
            go_wp2_with fail
            go_ret
            exact ⟨rfl, rfl⟩
          · have hg := Lib.hid (goodK_of h1 h2)
            replace h1 : (I8 (bt s k) == 0) = false := by simp; exact h1
            replace h2 : (I8 (bt s k) == 47) = false := by simp; exact h2
            go_wp2_with fail
            go_round
            case rel => exact ⟨k + 1, by omega, by go_num, Lib.hid fun j hj => by
              rcases Nat.lt_succ_iff_lt_or_eq.1 hj with hj | rfl
              · exact HK.out j hj
              · exact hg.out⟩
            case measure => simp [intOf]; omega
      · obtain rfl : k = s.length := by omega
        have e : N = true := HG.out HK.out
        subst e
        go_wp2_with fail
        go_ret
        exact ⟨rfl, rfl⟩
  · rw [pkey_len hl]
    go_enter Try.func85, Try.ntmps85
    go_wp2_with fail
    all_goals
      go_ret
      exact ⟨rfl, rfl⟩
set_option maxRecDepth 100000 in
set_option maxHeartbeats 2000000 in
theorem Cut11_c (p : List UInt8) (w : World) (hp : p.length ≤ 1000000000) :
    Calls Try.prog 78 #[.string (mkS p)] w fun e w' => e = .returned (.tuple #[.string (mkS (cutL p).1), .string (mkS (cutL p).2.1), .bool (cutL p).2.2]) ∧ Below w.heap.size w w' := by
  have M := Mem.start [] w
  have hsl := slash_le p
  have hno := slash_before p
  have hat := slash_at p
  obtain ⟨C, eC⟩ : ∃ C, C = cutL p := ⟨_, rfl⟩
  rw [← eC]
  unfold cutL at eC
  obtain ⟨S, eS⟩ : ∃ S, S = slash p := ⟨_, rfl⟩
  rw [← eS] at hsl hno hat eC
  have HN := Lib.hid hno
  have HT := Lib.hid hat
  have EC := Lib.hid eC
  clear eS hno hat eC
  go_enter Try.func78, Try.ntmps78
  go_wp2_with fail
  go_loopw [5] (fun iv wr => ∃ k : Nat, k ≤ S ∧ iv = .int .i64 k ∧ Mem [] w wr []) (fun iv _ => p.length - (intOf iv).toNat)
  case atStart => exact ⟨0, by omega, rfl, M⟩
  case round =>
    clear M
    obtain ⟨k, hk, rfl, M⟩ := hrel
    by_cases hlt : k < S
    · have hb : (I8 (bt p k) == 47) = false := by
        have := HN.out k hlt
        rw [beq_eq_false_iff_ne, I8_bt]; omega
      have hkl : k < p.length := by omega
      go_wp2_with fail
      go_roundw
      case rel => exact ⟨k + 1, by omega, by go_num, M⟩
      case measure => simp [intOf]; omega
    · obtain rfl : k = S := by omega
      by_cases hl : k < p.length
      · have hb : (I8 (bt p k) == 47) = true := by
          have := HT.out hl
          rw [I8_bt, this]; rfl
        have hb' : I8 (bt p k) = 47 := by simpa using hb
        have HB' := Lib.hid hb'
        clear hb'
        obtain ⟨a, ea⟩ : ∃ a, a = p.take k := ⟨_, rfl⟩
        obtain ⟨b, eb⟩ : ∃ b, b = p.drop (k + 1) := ⟨_, rfl⟩
        have la : a.length ≤ 1000000000 := by rw [ea]; simp; omega
        have lb : b.length ≤ 1000000000 := by rw [eb]; simp; omega
        have eC := EC.out
        rw [← ea, ← eb] at eC
        have N : ∀ w, Calls Try.prog 84 #[.string (mkS a)] w fun e w' => e = .returned (.bool (namedL a)) ∧ w = w' := fun w => Named_c a w la
        have K : ∀ w, Calls Try.prog 85 #[.string (mkS b)] w fun e w' => e = .returned (.bool (pkeyL b)) ∧ w = w' := fun w => Key11_c b w lb
        have EA := Lib.hid ea; have EB := Lib.hid eb
        clear ea eb
        by_cases hn : namedL a = true
        · by_cases hkk : pkeyL b = true
          · rw [if_pos ⟨hl, hn, hkk⟩] at eC
            rw [hn] at N; rw [hkk] at K
            rw [EA.out] at N eC; rw [EB.out] at K eC
            have N := Lib.hid N; have K := Lib.hid K
            subst eC
            go_wp2_with ((first | (go_at_call 84; go_must (refine (N.out _).mono ?_; rintro e w1 ⟨rfl, rfl⟩)) | (go_at_call 85; go_must (refine (K.out _).mono ?_; rintro e w1 ⟨rfl, rfl⟩)) | ((with_reducible show Code.wp _ (Code.region 6 _ _) _ _ _); go_must (refine region_det [(0, false), (1, false), (2, false), (3, false), (4, false), (5, false), (6, false), (7, false), (8, false), (9, false)] [(31, .int)] (by kernel_rfl) (by kernel_rfl) rfl (by kernel_rfl) ?_; replace M := M.drew; simp only [reord, opAt, List.map_cons, List.map_nil, List.getElem?_toArray, List.getElem?_cons_zero, List.getElem?_cons_succ, Option.getD_some])) | ((with_reducible show Seg _ _ _ _); go_must (first | refine Seg.intro ⟨fun h => absurd rfl h, ?_⟩ | refine Seg.intro ⟨fun _ => (by repeat' (first | exact ixOk_nil M.kept | refine ixOk_cons rfl (by first | exact M.ok 0 _ rfl | exact M.ok 1 _ rfl | exact M.ok 2 _ rfl) ?_)), ?_⟩ | refine Seg.intro ⟨(by repeat' (first | (with_reducible exact needs_nil) | refine needs_at rfl (by first | (show Shape.ok Shape.nums _ = true; exact nums_bs _) | rfl) ?_)), (by repeat' (first | (with_reducible exact ats_nil) | refine ats_cons (by first | exact ev_tmp rfl | rfl) ?_)), ?_⟩)) | ((with_reducible show OnlyN _ _ _ _ _); refine OnlyN.intro (by kernel_rfl) ?_) | ((with_reducible refine tGuard ?_); first | refine w_strip rfl (by with_reducible rfl) ?_ | ((fail_if_success (refine w_lit false rfl (by with_reducible rfl) ?_)); (fail_if_success (refine w_lit true rfl (by with_reducible rfl) ?_)); refine w_case rfl ?_ ?_ <;> (intro hgd; rw [hgd]; try (exfalso; simp at hgd; omega)))) | ((with_reducible refine tConv _ 41 9 ?_); go_must (first | refine w_stringW M _ _ _ _ _ rfl rfl (by first | exact at0) rfl (by first | assumption | exact lenI | exact lenS ‹_› | rfl) (by decide) Try.underlying41 Try.underlying5 Try.underlying9 ?_ | refine w_string M _ _ _ _ _ rfl rfl (by first | exact at0) (by first | rfl | (simp; done) | assumption) rfl Try.underlying41 Try.underlying5 Try.underlying9 ?_)) | ((with_reducible refine tLoad ?_); go_must (refine w_at _ _ rfl (by exact ev_tmp rfl) ?_; intro hx; (first | refine w_load M _ _ _ rfl (by first | exact at0) hx rfl (by decide +kernel) (by exact rfl) ?_ | refine w_loadB M _ _ _ rfl (by first | exact at0) hx rfl (by decide +kernel) (by first | assumption | omega | (simp; omega)) ?_ | refine w_loadH M _ _ _ rfl (by first | exact at0) hx rfl (by decide +kernel) (by first | assumption | exact lenI | exact lenS ‹_› | rfl) (by decide +kernel) ?_ | refine w_loadR M _ _ _ rfl (by first | exact at0) hx rfl (by decide +kernel) (by kernel_rfl) ?_); clear hx)) | ((with_reducible refine tStore ?_); go_must (refine w_at2 _ _ _ rfl (by exact ev_tmp rfl) (by first | exact ev_tmp rfl | exact ev_const) ?_; intro hx hy; (first | refine w_storeB M _ _ _ _ rfl (by first | exact at0) hx rfl hy (by decide +kernel) (by first | assumption | omega | (simp; omega)) ?_ | refine w_storeH M _ _ _ _ rfl (by first | exact at0) hx rfl hy (by first | assumption | exact lenI | exact lenS ‹_› | rfl) (by decide +kernel) (by first | assumption | exact lenI | exact lenS ‹_› | rfl) ?_ | refine w_store M _ _ _ _ rfl (by first | exact at0) hx rfl hy rfl rfl (by decide +kernel) (by first | decide | simp | (simp; omega)) ?_ | refine w_storeR M _ _ _ _ rfl (by first | exact at0) hx rfl _ hy rfl (by kernel_rfl) (by simp [Value.oneCell']) (by first | rfl | assumption) ?_); clear hx hy M; intro w1 M; (try simp only [setC] at M))) | ((with_reducible refine tBox _ ?_); (refine w_box M _ _ rfl rfl _ rfl _ rfl ?_; clear M; intro g w1 M))) <;> (try conv => arg 5; simp only [Act.put, List.setIfInBounds_toArray, setC]))
            go_ret3
            exact ⟨rfl, M.below⟩
          · rw [if_neg (fun x => hkk x.2.2)] at eC
            rw [hn] at N; rw [Bool.not_eq_true] at hkk; rw [hkk] at K
            rw [EA.out] at N; rw [EB.out] at K
            have N := Lib.hid N; have K := Lib.hid K
            subst eC
            go_wp2_with (first | (go_at_call 84; go_must (refine (N.out _).mono ?_; rintro e w1 ⟨rfl, rfl⟩)) | (go_at_call 85; go_must (refine (K.out _).mono ?_; rintro e w1 ⟨rfl, rfl⟩)))
            go_ret3
            exact ⟨rfl, M.below⟩
        · rw [if_neg (fun x => hn x.2.1)] at eC
          rw [Bool.not_eq_true] at hn; rw [hn] at N
          rw [EA.out] at N
          have N := Lib.hid N
          subst eC
          go_wp2_with (first | (go_at_call 84; go_must (refine (N.out _).mono ?_; rintro e w1 ⟨rfl, rfl⟩)))
          go_ret3
          exact ⟨rfl, M.below⟩
      · have eC := EC.out
        rw [if_neg (fun x => hl x.1)] at eC
        subst eC
        go_wp2_with fail
        go_ret3
        exact ⟨rfl, M.below⟩
end Go.Proofs.Ytoaabclemeibhaa

/- Plain laws of walks: a variable's one cell; a result of two, the first in memory. No conditions. -/
namespace Go
namespace TL
open Go.RowKit
def cellV (v : Value) : List Value := [v]
theorem SeesL.row1 {w : World} {g : Nat} {c : Value} (h : (Chunk.row g [c]).ok w) : SeesL w 1 cellV (.slice (some ⟨g, 0, none⟩) 1 1) [c] :=
  ⟨⟨rfl, .inr ⟨g, 0, 1, rfl, h.1, Nat.le_refl _, by simp only [maxLen]; omega, h.2.1⟩⟩, fun _ => rfl⟩
theorem results_row2 {P : Program} {fn : Func} {p q : Tmp} {ty : TypeId} (h : fn.results = #[.cell p ty, .tmp q]) (tmps : Array Value) (w : World) (b o : Nat) (cs : List Value) (d : TypeDesc) (z : Value)
    (hp : tmps.getD p undef = .pointer (some ⟨b, o, none⟩)) (hz : tmps.getD q undef = z) (hc : w.rangeAt b o cs) (hu : P.underlying ty = some d) (hd : d.isRow = true) (hi : (P.info? ty).map (·.size) = some cs.length) :
    (results fn tmps).run P w = .ok (.tuple #[.agg cs.toArray, z]) w := by
  have hp' : tmps[p]?.getD undef = .pointer (some ⟨b, o, none⟩) := by simpa using hp
  have hz' : tmps[q]?.getD undef = z := by simpa using hz
  simp [results, h, hp', hz', asAddr, run_loadVar_mid w b o ty cs d hc hu hd hi]
end TL
end Go

/- The walks of batch.Right's closure, and of batch.each under it. Conditions: lengths. -/
namespace Go
namespace TL
theorem I8_ne {q c : UInt8} (h : q ≠ c) : (I8 q == I8 c) = false ∧ (I8 q != I8 c) = true := by
  have : I8 q ≠ I8 c := fun e => h (by rw [I8_eq, I8_eq] at e; exact UInt8.toNat_inj.1 (by omega))
  exact ⟨by simpa using this, by simpa using this⟩
theorem each_bad {f : List UInt8 → Nat} {l : List Opr} {k : Nat} {x : Opr} {r : Nat} (h : l[k]? = some x) (hb : ∀ (j : Nat) (y : Opr), j < k → l[j]? = some y → opE f y = 0) (hx : opE f x = r) (hr : r ≠ 0) : eachE f l = r := by
  rw [each_at h hb (by rw [hx]; exact hr), hx]
end TL
end Go
namespace Go.Proofs.Ytoaabclemeibhaa
open Go.RowKit Go.TL
set_option maxRecDepth 100000 in
set_option maxHeartbeats 2000000 in
theorem Right1_c (p : List UInt8) (w : World) (hp : p.length ≤ 1000000000) :
    Calls Try.prog 89 #[.string (mkS p)] w fun e w' => e = .returned (.int .i64 (cutE p)) ∧ Below w.heap.size w w' := by
  have M := Mem.start [] w
  have C := fun w => Cut_c p w hp
  unfold cutE
  obtain ⟨⟨m, k, ok⟩, ec⟩ : ∃ c, c = cutL p := ⟨_, rfl⟩
  rw [← ec] at C ⊢
  clear ec
  simp only at C ⊢
  replace C := Lib.hid C
  cases ok with
  | true =>
    simp only [if_true]
    go_enter Try.func89, Try.ntmps89
    go_wp2_with (first | (go_at_call 90; go_must (refine (C.out _).mono ?_; rintro e w1 ⟨rfl, hb⟩; replace M := M.call hb; clear hb)))
    go_ret
    exact ⟨rfl, M.below⟩
  | false =>
    go_enter Try.func89, Try.ntmps89
    go_wp2_with (first | (go_at_call 90; go_must (refine (C.out _).mono ?_; rintro e w1 ⟨rfl, hb⟩; replace M := M.call hb; clear hb)))
    go_ret
    exact ⟨rfl, M.below⟩
set_option maxRecDepth 100000 in
set_option maxHeartbeats 8000000 in
theorem EachR_c (ops : List Opr) (v : Value) (w : World) (S : SeesL w 3 opV v ops) (hl : ops.length ≤ 1000000) (hm : ∀ x ∈ ops, x.2.1.length ≤ 100000000 ∧ x.2.2.length ≤ 100000000) :
    Calls Try.prog 88 #[v, .func (.func 89) #[] #[]] w fun e w' => e = .returned (.int .i64 (eachE cutE ops)) ∧ Below w.heap.size w w' := by
  obtain ⟨q, cap, rfl, hc⟩ := S.form
  have M := Mem.start [] w
  have HB := fun k x r => @each_bad cutE ops k x r
  have HG := @each_all cutE ops
  obtain ⟨R, eR⟩ : ∃ R, R = eachE cutE ops := ⟨_, rfl⟩
  rw [← eR] at HB HG ⊢
  replace HB := Lib.hid HB
  replace HG := Lib.hid HG
  clear eR
  go_enter Try.func88, Try.ntmps88
  go_wp2_with fail
  go_loopw [10] (fun iv wr => ∃ k : Nat, k ≤ ops.length ∧ iv = .int .i64 k ∧ Hid (∀ (j : Nat) (y : Opr), j < k → ops[j]? = some y → opE cutE y = 0) ∧ Mem [] w wr []) (fun iv _ => ops.length - (intOf iv).toNat)
  case atStart => exact ⟨0, by omega, rfl, Lib.hid (by omega), M⟩
  case round =>
    clear M
    obtain ⟨k, hk, rfl, HK, M⟩ := hrel
    by_cases hlt : k < ops.length
    · obtain ⟨g, so, rfl⟩ := S.addr (by omega)
      obtain ⟨⟨q, a, b⟩, hx⟩ : ∃ x, ops[k]? = some x := ⟨_, List.getElem?_eq_getElem hlt⟩
      obtain ⟨ha, hb⟩ := hm (q, a, b) (List.mem_of_getElem? hx)
      simp only at ha hb
      have C := fun w => Right1_c a w (by omega)
      have HX := Lib.hid hx
      clear hx
      by_cases hq : q = 1 ∨ q = 2
      · have HQ := Lib.hid hq
        have HI : I8 q = 1 ∨ I8 q = 2 := by rcases hq with rfl | rfl; exact .inl rfl; exact .inr rfl
        obtain ⟨n, en⟩ : ∃ n, n = cutE a := ⟨_, rfl⟩
        have EN := Lib.hid en
        try simp only at en
        rw [← en] at C
        replace C := Lib.hid C
        clear en hq
        by_cases hn : n = 0
        · subst hn
          by_cases hb32 : 32 < b.length
          · have e : R = 3 := HB.out k _ _ HX.out HK.out (op_long HQ.out EN.out.symm hb32) (by decide)
            subst e
            have hb33 : (32 : Int) < (b.length : Int) := by omega
            rcases HI with HI | HI
            all_goals
              go_wp2_with ((first | ((with_reducible refine tLoad ?_); refine w_at _ _ rfl (by exact ev_tmp rfl) ?_; intro hx; first | (refine w_seeA M S HX.out _ _ rfl hx rfl (by decide +kernel) (by first | (with_reducible rfl) | omega) (by kernel_rfl) ?_; clear hx; (try conv => arg 5; simp only [Act.put, List.setIfInBounds_toArray, setC, opV_eq])) | (refine w_see M S HX.out _ _ rfl hx rfl (by decide +kernel) 0 (by first | (with_reducible rfl) | omega) rfl ?_; clear hx) | (refine w_see M S HX.out _ _ rfl hx rfl (by decide +kernel) 1 (by first | (with_reducible rfl) | omega) rfl ?_; clear hx) | (refine w_see M S HX.out _ _ rfl hx rfl (by decide +kernel) 2 (by first | (with_reducible rfl) | omega) rfl ?_; clear hx)) | ((with_reducible refine tAlloc (some 6) 75 ?_); refine w_alloc M _ rfl rfl (.agg #[.int .u8 0, .string (mkS []), .string (mkS [])]) (opV (0, [], [])) (by kernel_rfl) rfl ?_; clear M; intro gx w1 M) | (go_at_call 89; go_must (refine (C.out _).mono ?_; rintro e w1 ⟨rfl, hb⟩; replace M := M.call hb; clear hb)) | ((with_reducible refine tGuard ?_); refine w_strip rfl (by with_reducible rfl) ?_) | fail | ((with_reducible refine tLoad ?_); go_must (refine w_at _ _ rfl (by exact ev_tmp rfl) ?_; intro hx; (first | refine w_load M _ _ _ rfl (by first | exact at0) hx rfl (by decide +kernel) (by exact rfl) ?_ | refine w_loadR M _ _ _ rfl (by first | exact at0) hx rfl (by decide +kernel) (by kernel_rfl) ?_); clear hx)) | ((with_reducible refine tStore ?_); go_must (refine w_at2 _ _ _ rfl (by exact ev_tmp rfl) (by first | exact ev_tmp rfl | exact ev_const) ?_; intro hx hy; (first | refine w_store M _ _ _ _ rfl (by first | exact at0) hx rfl hy rfl rfl (by decide +kernel) (by first | decide | simp | (simp; omega)) ?_ | refine w_storeR M _ _ _ _ rfl (by first | exact at0) hx rfl _ hy rfl (by kernel_rfl) (by simp [Value.oneCell']) (by first | rfl | assumption) ?_); clear hx hy M; intro w1 M; (try simp only [setC] at M))) | ((with_reducible refine tBox _ ?_); (refine w_box M _ _ rfl rfl _ rfl _ rfl ?_; clear M; intro g w1 M))) <;> (try conv => arg 5; simp only [Act.put, List.setIfInBounds_toArray, setC]))
              go_ret
              exact ⟨rfl, M.below⟩
          · have hb33 : (b.length : Int) ≤ 32 := by omega
            rcases HI with HI | HI
            · have hq1 : q = 1 := by
                rcases HQ.out with h | h
                · exact h
                · subst h; exact absurd HI (by decide)
              have HZ := Lib.hid (op_good (f := cutE) (x := (q, a, b)) HQ.out EN.out.symm (by simp only; omega) (fun h => by simp only at h; rw [hq1] at h; exact absurd h (by decide)))
              clear hq1
              go_wp2_with ((first | ((with_reducible refine tLoad ?_); refine w_at _ _ rfl (by exact ev_tmp rfl) ?_; intro hx; first | (refine w_seeA M S HX.out _ _ rfl hx rfl (by decide +kernel) (by first | (with_reducible rfl) | omega) (by kernel_rfl) ?_; clear hx; (try conv => arg 5; simp only [Act.put, List.setIfInBounds_toArray, setC, opV_eq])) | (refine w_see M S HX.out _ _ rfl hx rfl (by decide +kernel) 0 (by first | (with_reducible rfl) | omega) rfl ?_; clear hx) | (refine w_see M S HX.out _ _ rfl hx rfl (by decide +kernel) 1 (by first | (with_reducible rfl) | omega) rfl ?_; clear hx) | (refine w_see M S HX.out _ _ rfl hx rfl (by decide +kernel) 2 (by first | (with_reducible rfl) | omega) rfl ?_; clear hx)) | ((with_reducible refine tAlloc (some 6) 75 ?_); refine w_alloc M _ rfl rfl (.agg #[.int .u8 0, .string (mkS []), .string (mkS [])]) (opV (0, [], [])) (by kernel_rfl) rfl ?_; clear M; intro gx w1 M) | (go_at_call 89; go_must (refine (C.out _).mono ?_; rintro e w1 ⟨rfl, hb⟩; replace M := M.call hb; clear hb)) | ((with_reducible refine tGuard ?_); refine w_strip rfl (by with_reducible rfl) ?_) | fail | ((with_reducible refine tLoad ?_); go_must (refine w_at _ _ rfl (by exact ev_tmp rfl) ?_; intro hx; (first | refine w_load M _ _ _ rfl (by first | exact at0) hx rfl (by decide +kernel) (by exact rfl) ?_ | refine w_loadR M _ _ _ rfl (by first | exact at0) hx rfl (by decide +kernel) (by kernel_rfl) ?_); clear hx)) | ((with_reducible refine tStore ?_); go_must (refine w_at2 _ _ _ rfl (by exact ev_tmp rfl) (by first | exact ev_tmp rfl | exact ev_const) ?_; intro hx hy; (first | refine w_store M _ _ _ _ rfl (by first | exact at0) hx rfl hy rfl rfl (by decide +kernel) (by first | decide | simp | (simp; omega)) ?_ | refine w_storeR M _ _ _ _ rfl (by first | exact at0) hx rfl _ hy rfl (by kernel_rfl) (by simp [Value.oneCell']) (by first | rfl | assumption) ?_); clear hx hy M; intro w1 M; (try simp only [setC] at M))) | ((with_reducible refine tBox _ ?_); (refine w_box M _ _ rfl rfl _ rfl _ rfl ?_; clear M; intro g w1 M))) <;> (try conv => arg 5; simp only [Act.put, List.setIfInBounds_toArray, setC]))
              go_roundw
              case rel => exact ⟨k + 1, by omega, by go_num, Lib.hid fun j y hj hy => by
                rcases Nat.lt_succ_iff_lt_or_eq.1 hj with hj | rfl
                · exact HK.out j y hj hy
                · have := HX.out; rw [hy] at this; cases this; exact HZ.out, M.tail⟩
              case measure => simp [intOf]; omega
            · have hq2 : q = 2 := by
                rcases HQ.out with h | h
                · subst h; exact absurd HI (by decide)
                · exact h
              by_cases hbe : b = []
              · subst hbe
                have HZ := Lib.hid (op_good (f := cutE) (x := (q, a, [])) HQ.out EN.out.symm (by simp) (fun h => rfl))
                clear hq2
                go_wp2_with ((first | ((with_reducible refine tLoad ?_); refine w_at _ _ rfl (by exact ev_tmp rfl) ?_; intro hx; first | (refine w_seeA M S HX.out _ _ rfl hx rfl (by decide +kernel) (by first | (with_reducible rfl) | omega) (by kernel_rfl) ?_; clear hx; (try conv => arg 5; simp only [Act.put, List.setIfInBounds_toArray, setC, opV_eq])) | (refine w_see M S HX.out _ _ rfl hx rfl (by decide +kernel) 0 (by first | (with_reducible rfl) | omega) rfl ?_; clear hx) | (refine w_see M S HX.out _ _ rfl hx rfl (by decide +kernel) 1 (by first | (with_reducible rfl) | omega) rfl ?_; clear hx) | (refine w_see M S HX.out _ _ rfl hx rfl (by decide +kernel) 2 (by first | (with_reducible rfl) | omega) rfl ?_; clear hx)) | ((with_reducible refine tAlloc (some 6) 75 ?_); refine w_alloc M _ rfl rfl (.agg #[.int .u8 0, .string (mkS []), .string (mkS [])]) (opV (0, [], [])) (by kernel_rfl) rfl ?_; clear M; intro gx w1 M) | (go_at_call 89; go_must (refine (C.out _).mono ?_; rintro e w1 ⟨rfl, hb⟩; replace M := M.call hb; clear hb)) | ((with_reducible refine tGuard ?_); refine w_strip rfl (by with_reducible rfl) ?_) | fail | ((with_reducible refine tLoad ?_); go_must (refine w_at _ _ rfl (by exact ev_tmp rfl) ?_; intro hx; (first | refine w_load M _ _ _ rfl (by first | exact at0) hx rfl (by decide +kernel) (by exact rfl) ?_ | refine w_loadR M _ _ _ rfl (by first | exact at0) hx rfl (by decide +kernel) (by kernel_rfl) ?_); clear hx)) | ((with_reducible refine tStore ?_); go_must (refine w_at2 _ _ _ rfl (by exact ev_tmp rfl) (by first | exact ev_tmp rfl | exact ev_const) ?_; intro hx hy; (first | refine w_store M _ _ _ _ rfl (by first | exact at0) hx rfl hy rfl rfl (by decide +kernel) (by first | decide | simp | (simp; omega)) ?_ | refine w_storeR M _ _ _ _ rfl (by first | exact at0) hx rfl _ hy rfl (by kernel_rfl) (by simp [Value.oneCell']) (by first | rfl | assumption) ?_); clear hx hy M; intro w1 M; (try simp only [setC] at M))) | ((with_reducible refine tBox _ ?_); (refine w_box M _ _ rfl rfl _ rfl _ rfl ?_; clear M; intro g w1 M))) <;> (try conv => arg 5; simp only [Act.put, List.setIfInBounds_toArray, setC]))
                go_roundw
                case rel => exact ⟨k + 1, by omega, by go_num, Lib.hid fun j y hj hy => by
                  rcases Nat.lt_succ_iff_lt_or_eq.1 hj with hj | rfl
                  · exact HK.out j y hj hy
                  · have := HX.out; rw [hy] at this; cases this; exact HZ.out, M.tail⟩
                case measure => simp [intOf]; omega
              · have e : R = 1 := HB.out k _ _ HX.out HK.out (op_arg hq2 EN.out.symm (by simp only; omega) hbe) (by decide)
                subst e
                have hbe' : b.isEmpty = false := by simpa using hbe
                clear hq2 hbe
                go_wp2_with ((first | ((with_reducible refine tLoad ?_); refine w_at _ _ rfl (by exact ev_tmp rfl) ?_; intro hx; first | (refine w_seeA M S HX.out _ _ rfl hx rfl (by decide +kernel) (by first | (with_reducible rfl) | omega) (by kernel_rfl) ?_; clear hx; (try conv => arg 5; simp only [Act.put, List.setIfInBounds_toArray, setC, opV_eq])) | (refine w_see M S HX.out _ _ rfl hx rfl (by decide +kernel) 0 (by first | (with_reducible rfl) | omega) rfl ?_; clear hx) | (refine w_see M S HX.out _ _ rfl hx rfl (by decide +kernel) 1 (by first | (with_reducible rfl) | omega) rfl ?_; clear hx) | (refine w_see M S HX.out _ _ rfl hx rfl (by decide +kernel) 2 (by first | (with_reducible rfl) | omega) rfl ?_; clear hx)) | ((with_reducible refine tAlloc (some 6) 75 ?_); refine w_alloc M _ rfl rfl (.agg #[.int .u8 0, .string (mkS []), .string (mkS [])]) (opV (0, [], [])) (by kernel_rfl) rfl ?_; clear M; intro gx w1 M) | (go_at_call 89; go_must (refine (C.out _).mono ?_; rintro e w1 ⟨rfl, hb⟩; replace M := M.call hb; clear hb)) | ((with_reducible refine tGuard ?_); refine w_strip rfl (by with_reducible rfl) ?_) | fail | ((with_reducible refine tLoad ?_); go_must (refine w_at _ _ rfl (by exact ev_tmp rfl) ?_; intro hx; (first | refine w_load M _ _ _ rfl (by first | exact at0) hx rfl (by decide +kernel) (by exact rfl) ?_ | refine w_loadR M _ _ _ rfl (by first | exact at0) hx rfl (by decide +kernel) (by kernel_rfl) ?_); clear hx)) | ((with_reducible refine tStore ?_); go_must (refine w_at2 _ _ _ rfl (by exact ev_tmp rfl) (by first | exact ev_tmp rfl | exact ev_const) ?_; intro hx hy; (first | refine w_store M _ _ _ _ rfl (by first | exact at0) hx rfl hy rfl rfl (by decide +kernel) (by first | decide | simp | (simp; omega)) ?_ | refine w_storeR M _ _ _ _ rfl (by first | exact at0) hx rfl _ hy rfl (by kernel_rfl) (by simp [Value.oneCell']) (by first | rfl | assumption) ?_); clear hx hy M; intro w1 M; (try simp only [setC] at M))) | ((with_reducible refine tBox _ ?_); (refine w_box M _ _ rfl rfl _ rfl _ rfl ?_; clear M; intro g w1 M))) <;> (try conv => arg 5; simp only [Act.put, List.setIfInBounds_toArray, setC]))
                go_ret
                exact ⟨rfl, M.below⟩
        · have e : R = n := HB.out k _ _ HX.out HK.out ((op_path HQ.out (fun h0 => hn (EN.out.trans h0))).trans EN.out.symm) hn
          subst e
          have hz : ((R : Int) == 0) = false := by simp; exact hn
          have hz' : ((R : Int) != 0) = true := by simp; exact hn
          clear hn
          rcases HI with HI | HI
          all_goals
            go_wp2_with ((first | ((with_reducible refine tLoad ?_); refine w_at _ _ rfl (by exact ev_tmp rfl) ?_; intro hx; first | (refine w_seeA M S HX.out _ _ rfl hx rfl (by decide +kernel) (by first | (with_reducible rfl) | omega) (by kernel_rfl) ?_; clear hx; (try conv => arg 5; simp only [Act.put, List.setIfInBounds_toArray, setC, opV_eq])) | (refine w_see M S HX.out _ _ rfl hx rfl (by decide +kernel) 0 (by first | (with_reducible rfl) | omega) rfl ?_; clear hx) | (refine w_see M S HX.out _ _ rfl hx rfl (by decide +kernel) 1 (by first | (with_reducible rfl) | omega) rfl ?_; clear hx) | (refine w_see M S HX.out _ _ rfl hx rfl (by decide +kernel) 2 (by first | (with_reducible rfl) | omega) rfl ?_; clear hx)) | ((with_reducible refine tAlloc (some 6) 75 ?_); refine w_alloc M _ rfl rfl (.agg #[.int .u8 0, .string (mkS []), .string (mkS [])]) (opV (0, [], [])) (by kernel_rfl) rfl ?_; clear M; intro gx w1 M) | (go_at_call 89; go_must (refine (C.out _).mono ?_; rintro e w1 ⟨rfl, hb⟩; replace M := M.call hb; clear hb)) | ((with_reducible refine tGuard ?_); refine w_strip rfl (by with_reducible rfl) ?_) | fail | ((with_reducible refine tLoad ?_); go_must (refine w_at _ _ rfl (by exact ev_tmp rfl) ?_; intro hx; (first | refine w_load M _ _ _ rfl (by first | exact at0) hx rfl (by decide +kernel) (by exact rfl) ?_ | refine w_loadR M _ _ _ rfl (by first | exact at0) hx rfl (by decide +kernel) (by kernel_rfl) ?_); clear hx)) | ((with_reducible refine tStore ?_); go_must (refine w_at2 _ _ _ rfl (by exact ev_tmp rfl) (by first | exact ev_tmp rfl | exact ev_const) ?_; intro hx hy; (first | refine w_store M _ _ _ _ rfl (by first | exact at0) hx rfl hy rfl rfl (by decide +kernel) (by first | decide | simp | (simp; omega)) ?_ | refine w_storeR M _ _ _ _ rfl (by first | exact at0) hx rfl _ hy rfl (by kernel_rfl) (by simp [Value.oneCell']) (by first | rfl | assumption) ?_); clear hx hy M; intro w1 M; (try simp only [setC] at M))) | ((with_reducible refine tBox _ ?_); (refine w_box M _ _ rfl rfl _ rfl _ rfl ?_; clear M; intro g w1 M))) <;> (try conv => arg 5; simp only [Act.put, List.setIfInBounds_toArray, setC]))
            go_ret
            exact ⟨rfl, M.below⟩
      · have e : R = 10 := HB.out k _ _ HX.out HK.out (op_kind hq) (by decide)
        subst e
        obtain ⟨h1, h1'⟩ := I8_ne (q := q) (c := 1) (fun h => hq (.inl h))
        obtain ⟨h2, h2'⟩ := I8_ne (q := q) (c := 2) (fun h => hq (.inr h))
        rw [show I8 1 = 1 from rfl] at h1 h1'
        rw [show I8 2 = 2 from rfl] at h2 h2'
        clear hq C
        go_wp2_with ((first | ((with_reducible refine tLoad ?_); refine w_at _ _ rfl (by exact ev_tmp rfl) ?_; intro hx; first | (refine w_seeA M S HX.out _ _ rfl hx rfl (by decide +kernel) (by first | (with_reducible rfl) | omega) (by kernel_rfl) ?_; clear hx; (try conv => arg 5; simp only [Act.put, List.setIfInBounds_toArray, setC, opV_eq])) | (refine w_see M S HX.out _ _ rfl hx rfl (by decide +kernel) 0 (by first | (with_reducible rfl) | omega) rfl ?_; clear hx) | (refine w_see M S HX.out _ _ rfl hx rfl (by decide +kernel) 1 (by first | (with_reducible rfl) | omega) rfl ?_; clear hx) | (refine w_see M S HX.out _ _ rfl hx rfl (by decide +kernel) 2 (by first | (with_reducible rfl) | omega) rfl ?_; clear hx)) | ((with_reducible refine tAlloc (some 6) 75 ?_); refine w_alloc M _ rfl rfl (.agg #[.int .u8 0, .string (mkS []), .string (mkS [])]) (opV (0, [], [])) (by kernel_rfl) rfl ?_; clear M; intro gx w1 M) | ((with_reducible refine tGuard ?_); refine w_strip rfl (by with_reducible rfl) ?_) | fail | ((with_reducible refine tLoad ?_); go_must (refine w_at _ _ rfl (by exact ev_tmp rfl) ?_; intro hx; (first | refine w_load M _ _ _ rfl (by first | exact at0) hx rfl (by decide +kernel) (by exact rfl) ?_ | refine w_loadR M _ _ _ rfl (by first | exact at0) hx rfl (by decide +kernel) (by kernel_rfl) ?_); clear hx)) | ((with_reducible refine tStore ?_); go_must (refine w_at2 _ _ _ rfl (by exact ev_tmp rfl) (by first | exact ev_tmp rfl | exact ev_const) ?_; intro hx hy; (first | refine w_store M _ _ _ _ rfl (by first | exact at0) hx rfl hy rfl rfl (by decide +kernel) (by first | decide | simp | (simp; omega)) ?_ | refine w_storeR M _ _ _ _ rfl (by first | exact at0) hx rfl _ hy rfl (by kernel_rfl) (by simp [Value.oneCell']) (by first | rfl | assumption) ?_); clear hx hy M; intro w1 M; (try simp only [setC] at M))) | ((with_reducible refine tBox _ ?_); (refine w_box M _ _ rfl rfl _ rfl _ rfl ?_; clear M; intro g w1 M))) <;> (try conv => arg 5; simp only [Act.put, List.setIfInBounds_toArray, setC]))
        go_ret
        exact ⟨rfl, M.below⟩
    · obtain rfl : k = ops.length := by omega
      obtain rfl : R = 0 := HG.out fun j x hx => HK.out j x (List.getElem?_eq_some_iff.1 hx).1 hx
      go_wp2_with fail
      go_ret
      exact ⟨rfl, M.below⟩
end Go.Proofs.Ytoaabclemeibhaa

/- The walks of batch.Right and of the reference's value. Conditions: lengths. -/
namespace Go
namespace TL
open Go.RowKit
def valE (q : UInt8) (b : List UInt8) : Nat := if 32 < b.length then 3 else if q = 2 ∧ b ≠ [] then 1 else 0
theorem op_val {f : List UInt8 → Nat} {q : UInt8} {a b : List UInt8} (h : q = 1 ∨ q = 2) (h2 : f a = 0) : opE f (q, a, b) = valE q b := by
  unfold opE valE
  rw [if_pos h, if_pos h2]
  by_cases h3 : 32 < b.length
  · rw [if_pos h3, if_neg (by simp only; omega)]
  · rw [if_neg h3, if_pos (by simp only; omega)]
theorem may_0 {l : List Mt} {ops : List Opr} (h : ops.length = 0) : mayO l ops = 1 := if_pos h
theorem may_4 {l : List Mt} {ops : List Opr} (h : 4 < ops.length) : mayO l ops = 3 := by unfold mayO; rw [if_neg (by omega), if_pos h]
theorem may_e {l : List Mt} {ops : List Opr} (h : 0 < ops.length) (h4 : ops.length ≤ 4) : mayO l ops = eachE (fun p => (ofP l p).2) ops := by unfold mayO; rw [if_neg (by omega), if_neg (by omega)]
theorem right_n {i e : Int} {ops : List Opr} (h : i < 1 ∨ 4611686018427387904 < i ∨ e < 1) : rightB i e ops = 1 := if_pos h
theorem right_4 {i e : Int} {ops : List Opr} (h : ¬ (i < 1 ∨ 4611686018427387904 < i ∨ e < 1)) (h4 : 4 < ops.length) : rightB i e ops = 3 := by unfold rightB; rw [if_neg h, if_pos h4]
theorem right_e {i e : Int} {ops : List Opr} (h : ¬ (i < 1 ∨ 4611686018427387904 < i ∨ e < 1)) (h4 : ops.length ≤ 4) : rightB i e ops = eachE cutE ops := by unfold rightB; rw [if_neg h, if_neg (by omega)]
end TL
end Go
namespace Go.Proofs.Ytoaabclemeibhaa
open Go.RowKit Go.TL
set_option maxRecDepth 100000 in
set_option maxHeartbeats 2000000 in
theorem value12_c (q : UInt8) (a b : List UInt8) (w : World) (hb : b.length ≤ 100000000) :
    Calls Try.prog 79 #[.agg #[.int .u8 (I8 q), .string (mkS a), .string (mkS b)]] w fun e w' => e = .returned (.int .i64 (valE q b)) ∧ Below w.heap.size w w' := by
  have M := Mem.start [] w
  unfold valE
  by_cases h1 : 32 < b.length
  · rw [if_pos h1]
    have h2 : (32 : Int) < (b.length : Int) := by omega
    go_enter Try.func79, Try.ntmps79
    go_wp2_with ((first | ((with_reducible refine tBox (some 1) ?_); refine w_box M _ _ rfl rfl _ rfl ([.int .u8 (I8 q), .string (mkS a), .string (mkS b)]) rfl ?_; clear M; intro gx w1 M) | ((with_reducible refine tGuard ?_); refine w_strip rfl (by with_reducible rfl) ?_) | fail | ((with_reducible refine tLoad ?_); go_must (refine w_at _ _ rfl (by exact ev_tmp rfl) ?_; intro hx; (first | refine w_load M _ _ _ rfl (by first | exact at0) hx rfl (by decide +kernel) (by exact rfl) ?_ | refine w_loadR M _ _ _ rfl (by first | exact at0) hx rfl (by decide +kernel) (by kernel_rfl) ?_); clear hx)) | ((with_reducible refine tStore ?_); go_must (refine w_at2 _ _ _ rfl (by exact ev_tmp rfl) (by first | exact ev_tmp rfl | exact ev_const) ?_; intro hx hy; (first | refine w_store M _ _ _ _ rfl (by first | exact at0) hx rfl hy rfl rfl (by decide +kernel) (by first | decide | simp | (simp; omega)) ?_ | refine w_storeR M _ _ _ _ rfl (by first | exact at0) hx rfl _ hy rfl (by kernel_rfl) (by simp [Value.oneCell']) (by first | rfl | assumption) ?_); clear hx hy M; intro w1 M; (try simp only [setC] at M))) | ((with_reducible refine tBox _ ?_); (refine w_box M _ _ rfl rfl _ rfl _ rfl ?_; clear M; intro g w1 M))) <;> (try conv => arg 5; simp only [Act.put, List.setIfInBounds_toArray, setC]))
    go_ret
    exact ⟨rfl, M.below⟩
  · rw [if_neg h1]
    have h2 : (b.length : Int) ≤ 32 := by omega
    by_cases hq : q = 2
    · have HI : I8 q = 2 := by rw [hq]; rfl
      by_cases hbe : b = []
      · subst hbe
        rw [if_neg (by simp)]
        clear hq
        go_enter Try.func79, Try.ntmps79
        go_wp2_with ((first | ((with_reducible refine tBox (some 1) ?_); refine w_box M _ _ rfl rfl _ rfl ([.int .u8 (I8 q), .string (mkS []), .string (mkS [])]) rfl ?_; clear M; intro gx w1 M) | ((with_reducible refine tGuard ?_); refine w_strip rfl (by with_reducible rfl) ?_) | fail | ((with_reducible refine tLoad ?_); go_must (refine w_at _ _ rfl (by exact ev_tmp rfl) ?_; intro hx; (first | refine w_load M _ _ _ rfl (by first | exact at0) hx rfl (by decide +kernel) (by exact rfl) ?_ | refine w_loadR M _ _ _ rfl (by first | exact at0) hx rfl (by decide +kernel) (by kernel_rfl) ?_); clear hx)) | ((with_reducible refine tStore ?_); go_must (refine w_at2 _ _ _ rfl (by exact ev_tmp rfl) (by first | exact ev_tmp rfl | exact ev_const) ?_; intro hx hy; (first | refine w_store M _ _ _ _ rfl (by first | exact at0) hx rfl hy rfl rfl (by decide +kernel) (by first | decide | simp | (simp; omega)) ?_ | refine w_storeR M _ _ _ _ rfl (by first | exact at0) hx rfl _ hy rfl (by kernel_rfl) (by simp [Value.oneCell']) (by first | rfl | assumption) ?_); clear hx hy M; intro w1 M; (try simp only [setC] at M))) | ((with_reducible refine tBox _ ?_); (refine w_box M _ _ rfl rfl _ rfl _ rfl ?_; clear M; intro g w1 M))) <;> (try conv => arg 5; simp only [Act.put, List.setIfInBounds_toArray, setC]))
        go_ret
        exact ⟨rfl, M.below⟩
      · rw [if_pos ⟨hq, hbe⟩]
        have hbe' : b.isEmpty = false := by simpa using hbe
        clear hq hbe
        go_enter Try.func79, Try.ntmps79
        go_wp2_with ((first | ((with_reducible refine tBox (some 1) ?_); refine w_box M _ _ rfl rfl _ rfl ([.int .u8 (I8 q), .string (mkS a), .string (mkS b)]) rfl ?_; clear M; intro gx w1 M) | ((with_reducible refine tGuard ?_); refine w_strip rfl (by with_reducible rfl) ?_) | fail | ((with_reducible refine tLoad ?_); go_must (refine w_at _ _ rfl (by exact ev_tmp rfl) ?_; intro hx; (first | refine w_load M _ _ _ rfl (by first | exact at0) hx rfl (by decide +kernel) (by exact rfl) ?_ | refine w_loadR M _ _ _ rfl (by first | exact at0) hx rfl (by decide +kernel) (by kernel_rfl) ?_); clear hx)) | ((with_reducible refine tStore ?_); go_must (refine w_at2 _ _ _ rfl (by exact ev_tmp rfl) (by first | exact ev_tmp rfl | exact ev_const) ?_; intro hx hy; (first | refine w_store M _ _ _ _ rfl (by first | exact at0) hx rfl hy rfl rfl (by decide +kernel) (by first | decide | simp | (simp; omega)) ?_ | refine w_storeR M _ _ _ _ rfl (by first | exact at0) hx rfl _ hy rfl (by kernel_rfl) (by simp [Value.oneCell']) (by first | rfl | assumption) ?_); clear hx hy M; intro w1 M; (try simp only [setC] at M))) | ((with_reducible refine tBox _ ?_); (refine w_box M _ _ rfl rfl _ rfl _ rfl ?_; clear M; intro g w1 M))) <;> (try conv => arg 5; simp only [Act.put, List.setIfInBounds_toArray, setC]))
        go_ret
        exact ⟨rfl, M.below⟩
    · rw [if_neg (fun h => hq h.1)]
      obtain ⟨h3, h3'⟩ := I8_ne (q := q) (c := 2) hq
      rw [show I8 2 = 2 from rfl] at h3 h3'
      clear hq
      go_enter Try.func79, Try.ntmps79
      go_wp2_with ((first | ((with_reducible refine tBox (some 1) ?_); refine w_box M _ _ rfl rfl _ rfl ([.int .u8 (I8 q), .string (mkS a), .string (mkS b)]) rfl ?_; clear M; intro gx w1 M) | ((with_reducible refine tGuard ?_); refine w_strip rfl (by with_reducible rfl) ?_) | fail | ((with_reducible refine tLoad ?_); go_must (refine w_at _ _ rfl (by exact ev_tmp rfl) ?_; intro hx; (first | refine w_load M _ _ _ rfl (by first | exact at0) hx rfl (by decide +kernel) (by exact rfl) ?_ | refine w_loadR M _ _ _ rfl (by first | exact at0) hx rfl (by decide +kernel) (by kernel_rfl) ?_); clear hx)) | ((with_reducible refine tStore ?_); go_must (refine w_at2 _ _ _ rfl (by exact ev_tmp rfl) (by first | exact ev_tmp rfl | exact ev_const) ?_; intro hx hy; (first | refine w_store M _ _ _ _ rfl (by first | exact at0) hx rfl hy rfl rfl (by decide +kernel) (by first | decide | simp | (simp; omega)) ?_ | refine w_storeR M _ _ _ _ rfl (by first | exact at0) hx rfl _ hy rfl (by kernel_rfl) (by simp [Value.oneCell']) (by first | rfl | assumption) ?_); clear hx hy M; intro w1 M; (try simp only [setC] at M))) | ((with_reducible refine tBox _ ?_); (refine w_box M _ _ rfl rfl _ rfl _ rfl ?_; clear M; intro g w1 M))) <;> (try conv => arg 5; simp only [Act.put, List.setIfInBounds_toArray, setC]))
      go_ret
      exact ⟨rfl, M.below⟩
set_option maxRecDepth 100000 in
set_option maxHeartbeats 4000000 in
theorem bRight_c (i e : Int) (ops : List Opr) (v : Value) (w : World) (S : SeesL w 3 opV v ops) (hl : ops.length ≤ 1000000) (hm : ∀ x ∈ ops, x.2.1.length ≤ 100000000 ∧ x.2.2.length ≤ 100000000) :
    Calls Try.prog 82 #[.agg #[.int .i64 i, .int .i64 e, v]] w fun e' w' => e' = .returned (.int .i64 (rightB i e ops)) ∧ Below w.heap.size w w' := by
  have M := Mem.start [] w
  have E := fun w S => EachR_c ops v w S hl hm
  obtain ⟨q, cap, rfl, hc⟩ := S.form
  by_cases h : i < 1 ∨ 4611686018427387904 < i ∨ e < 1
  · rw [right_n h]
    replace E := Lib.hid E
    rcases h with h | h
    · go_enter Try.func82, Try.ntmps82
      go_wp2_with ((first | ((with_reducible refine tBox (some 1) ?_); refine w_box M _ _ rfl rfl _ rfl ([.int .i64 i, .int .i64 e, .slice q ops.length cap]) rfl ?_; clear M; intro gx w1 M) | ((with_reducible refine tGuard ?_); (with_reducible refine w_stripE ?_ ?_); (focus (refine ⟨_, rfl, ?_⟩; first | (with_reducible rfl) | exact decide_eq_false (by omega) | exact decide_eq_true (by omega)))) | ((with_reducible refine tGuard ?_); first | refine w_strip rfl (by with_reducible rfl) ?_ | ((fail_if_success (refine w_lit false rfl (by with_reducible rfl) ?_)); (fail_if_success (refine w_lit true rfl (by with_reducible rfl) ?_)); refine w_case rfl ?_ ?_ <;> (intro hgd; rw [hgd]; try (exfalso; simp at hgd; omega)))) | fail | ((with_reducible refine tLoad ?_); go_must (refine w_at _ _ rfl (by exact ev_tmp rfl) ?_; intro hx; (first | refine w_load M _ _ _ rfl (by first | exact at0) hx rfl (by decide +kernel) (by exact rfl) ?_ | refine w_loadR M _ _ _ rfl (by first | exact at0) hx rfl (by decide +kernel) (by kernel_rfl) ?_); clear hx)) | ((with_reducible refine tStore ?_); go_must (refine w_at2 _ _ _ rfl (by exact ev_tmp rfl) (by first | exact ev_tmp rfl | exact ev_const) ?_; intro hx hy; (first | refine w_store M _ _ _ _ rfl (by first | exact at0) hx rfl hy rfl rfl (by decide +kernel) (by first | decide | simp | (simp; omega)) ?_ | refine w_storeR M _ _ _ _ rfl (by first | exact at0) hx rfl _ hy rfl (by kernel_rfl) (by simp [Value.oneCell']) (by first | rfl | assumption) ?_); clear hx hy M; intro w1 M; (try simp only [setC] at M))) | ((with_reducible refine tBox _ ?_); (refine w_box M _ _ rfl rfl _ rfl _ rfl ?_; clear M; intro g w1 M))) <;> (try conv => arg 5; simp only [Act.put, List.setIfInBounds_toArray, setC]))
      go_ret
      exact ⟨rfl, M.below⟩
    · by_cases h1 : i < 1
      · clear h
        go_enter Try.func82, Try.ntmps82
        go_wp2_with ((first | ((with_reducible refine tBox (some 1) ?_); refine w_box M _ _ rfl rfl _ rfl ([.int .i64 i, .int .i64 e, .slice q ops.length cap]) rfl ?_; clear M; intro gx w1 M) | ((with_reducible refine tGuard ?_); (with_reducible refine w_stripE ?_ ?_); (focus (refine ⟨_, rfl, ?_⟩; first | (with_reducible rfl) | exact decide_eq_false (by omega) | exact decide_eq_true (by omega)))) | ((with_reducible refine tGuard ?_); first | refine w_strip rfl (by with_reducible rfl) ?_ | ((fail_if_success (refine w_lit false rfl (by with_reducible rfl) ?_)); (fail_if_success (refine w_lit true rfl (by with_reducible rfl) ?_)); refine w_case rfl ?_ ?_ <;> (intro hgd; rw [hgd]; try (exfalso; simp at hgd; omega)))) | fail | ((with_reducible refine tLoad ?_); go_must (refine w_at _ _ rfl (by exact ev_tmp rfl) ?_; intro hx; (first | refine w_load M _ _ _ rfl (by first | exact at0) hx rfl (by decide +kernel) (by exact rfl) ?_ | refine w_loadR M _ _ _ rfl (by first | exact at0) hx rfl (by decide +kernel) (by kernel_rfl) ?_); clear hx)) | ((with_reducible refine tStore ?_); go_must (refine w_at2 _ _ _ rfl (by exact ev_tmp rfl) (by first | exact ev_tmp rfl | exact ev_const) ?_; intro hx hy; (first | refine w_store M _ _ _ _ rfl (by first | exact at0) hx rfl hy rfl rfl (by decide +kernel) (by first | decide | simp | (simp; omega)) ?_ | refine w_storeR M _ _ _ _ rfl (by first | exact at0) hx rfl _ hy rfl (by kernel_rfl) (by simp [Value.oneCell']) (by first | rfl | assumption) ?_); clear hx hy M; intro w1 M; (try simp only [setC] at M))) | ((with_reducible refine tBox _ ?_); (refine w_box M _ _ rfl rfl _ rfl _ rfl ?_; clear M; intro g w1 M))) <;> (try conv => arg 5; simp only [Act.put, List.setIfInBounds_toArray, setC]))
        go_ret
        exact ⟨rfl, M.below⟩
      · have h1' : 1 ≤ i := by omega
        rcases h with h | h
        · go_enter Try.func82, Try.ntmps82
          go_wp2_with ((first | ((with_reducible refine tBox (some 1) ?_); refine w_box M _ _ rfl rfl _ rfl ([.int .i64 i, .int .i64 e, .slice q ops.length cap]) rfl ?_; clear M; intro gx w1 M) | ((with_reducible refine tGuard ?_); (with_reducible refine w_stripE ?_ ?_); (focus (refine ⟨_, rfl, ?_⟩; first | (with_reducible rfl) | exact decide_eq_false (by omega) | exact decide_eq_true (by omega)))) | ((with_reducible refine tGuard ?_); first | refine w_strip rfl (by with_reducible rfl) ?_ | ((fail_if_success (refine w_lit false rfl (by with_reducible rfl) ?_)); (fail_if_success (refine w_lit true rfl (by with_reducible rfl) ?_)); refine w_case rfl ?_ ?_ <;> (intro hgd; rw [hgd]; try (exfalso; simp at hgd; omega)))) | fail | ((with_reducible refine tLoad ?_); go_must (refine w_at _ _ rfl (by exact ev_tmp rfl) ?_; intro hx; (first | refine w_load M _ _ _ rfl (by first | exact at0) hx rfl (by decide +kernel) (by exact rfl) ?_ | refine w_loadR M _ _ _ rfl (by first | exact at0) hx rfl (by decide +kernel) (by kernel_rfl) ?_); clear hx)) | ((with_reducible refine tStore ?_); go_must (refine w_at2 _ _ _ rfl (by exact ev_tmp rfl) (by first | exact ev_tmp rfl | exact ev_const) ?_; intro hx hy; (first | refine w_store M _ _ _ _ rfl (by first | exact at0) hx rfl hy rfl rfl (by decide +kernel) (by first | decide | simp | (simp; omega)) ?_ | refine w_storeR M _ _ _ _ rfl (by first | exact at0) hx rfl _ hy rfl (by kernel_rfl) (by simp [Value.oneCell']) (by first | rfl | assumption) ?_); clear hx hy M; intro w1 M; (try simp only [setC] at M))) | ((with_reducible refine tBox _ ?_); (refine w_box M _ _ rfl rfl _ rfl _ rfl ?_; clear M; intro g w1 M))) <;> (try conv => arg 5; simp only [Act.put, List.setIfInBounds_toArray, setC]))
          go_ret
          exact ⟨rfl, M.below⟩
        · by_cases h2 : 4611686018427387904 < i
          · clear h
            go_enter Try.func82, Try.ntmps82
            go_wp2_with ((first | ((with_reducible refine tBox (some 1) ?_); refine w_box M _ _ rfl rfl _ rfl ([.int .i64 i, .int .i64 e, .slice q ops.length cap]) rfl ?_; clear M; intro gx w1 M) | ((with_reducible refine tGuard ?_); (with_reducible refine w_stripE ?_ ?_); (focus (refine ⟨_, rfl, ?_⟩; first | (with_reducible rfl) | exact decide_eq_false (by omega) | exact decide_eq_true (by omega)))) | ((with_reducible refine tGuard ?_); first | refine w_strip rfl (by with_reducible rfl) ?_ | ((fail_if_success (refine w_lit false rfl (by with_reducible rfl) ?_)); (fail_if_success (refine w_lit true rfl (by with_reducible rfl) ?_)); refine w_case rfl ?_ ?_ <;> (intro hgd; rw [hgd]; try (exfalso; simp at hgd; omega)))) | fail | ((with_reducible refine tLoad ?_); go_must (refine w_at _ _ rfl (by exact ev_tmp rfl) ?_; intro hx; (first | refine w_load M _ _ _ rfl (by first | exact at0) hx rfl (by decide +kernel) (by exact rfl) ?_ | refine w_loadR M _ _ _ rfl (by first | exact at0) hx rfl (by decide +kernel) (by kernel_rfl) ?_); clear hx)) | ((with_reducible refine tStore ?_); go_must (refine w_at2 _ _ _ rfl (by exact ev_tmp rfl) (by first | exact ev_tmp rfl | exact ev_const) ?_; intro hx hy; (first | refine w_store M _ _ _ _ rfl (by first | exact at0) hx rfl hy rfl rfl (by decide +kernel) (by first | decide | simp | (simp; omega)) ?_ | refine w_storeR M _ _ _ _ rfl (by first | exact at0) hx rfl _ hy rfl (by kernel_rfl) (by simp [Value.oneCell']) (by first | rfl | assumption) ?_); clear hx hy M; intro w1 M; (try simp only [setC] at M))) | ((with_reducible refine tBox _ ?_); (refine w_box M _ _ rfl rfl _ rfl _ rfl ?_; clear M; intro g w1 M))) <;> (try conv => arg 5; simp only [Act.put, List.setIfInBounds_toArray, setC]))
            go_ret
            exact ⟨rfl, M.below⟩
          · have h2' : i ≤ 4611686018427387904 := by omega
            go_enter Try.func82, Try.ntmps82
            go_wp2_with ((first | ((with_reducible refine tBox (some 1) ?_); refine w_box M _ _ rfl rfl _ rfl ([.int .i64 i, .int .i64 e, .slice q ops.length cap]) rfl ?_; clear M; intro gx w1 M) | ((with_reducible refine tGuard ?_); (with_reducible refine w_stripE ?_ ?_); (focus (refine ⟨_, rfl, ?_⟩; first | (with_reducible rfl) | exact decide_eq_false (by omega) | exact decide_eq_true (by omega)))) | ((with_reducible refine tGuard ?_); first | refine w_strip rfl (by with_reducible rfl) ?_ | ((fail_if_success (refine w_lit false rfl (by with_reducible rfl) ?_)); (fail_if_success (refine w_lit true rfl (by with_reducible rfl) ?_)); refine w_case rfl ?_ ?_ <;> (intro hgd; rw [hgd]; try (exfalso; simp at hgd; omega)))) | fail | ((with_reducible refine tLoad ?_); go_must (refine w_at _ _ rfl (by exact ev_tmp rfl) ?_; intro hx; (first | refine w_load M _ _ _ rfl (by first | exact at0) hx rfl (by decide +kernel) (by exact rfl) ?_ | refine w_loadR M _ _ _ rfl (by first | exact at0) hx rfl (by decide +kernel) (by kernel_rfl) ?_); clear hx)) | ((with_reducible refine tStore ?_); go_must (refine w_at2 _ _ _ rfl (by exact ev_tmp rfl) (by first | exact ev_tmp rfl | exact ev_const) ?_; intro hx hy; (first | refine w_store M _ _ _ _ rfl (by first | exact at0) hx rfl hy rfl rfl (by decide +kernel) (by first | decide | simp | (simp; omega)) ?_ | refine w_storeR M _ _ _ _ rfl (by first | exact at0) hx rfl _ hy rfl (by kernel_rfl) (by simp [Value.oneCell']) (by first | rfl | assumption) ?_); clear hx hy M; intro w1 M; (try simp only [setC] at M))) | ((with_reducible refine tBox _ ?_); (refine w_box M _ _ rfl rfl _ rfl _ rfl ?_; clear M; intro g w1 M))) <;> (try conv => arg 5; simp only [Act.put, List.setIfInBounds_toArray, setC]))
            go_ret
            exact ⟨rfl, M.below⟩
  · obtain ⟨h1, h2, h3⟩ : 1 ≤ i ∧ i ≤ 4611686018427387904 ∧ 1 ≤ e := by omega
    by_cases h4 : 4 < ops.length
    · rw [right_4 h h4]
      have h4' : (4 : Int) < (ops.length : Int) := by omega
      replace E := Lib.hid E
      clear h
      go_enter Try.func82, Try.ntmps82
      go_wp2_with ((first | ((with_reducible refine tBox (some 1) ?_); refine w_box M _ _ rfl rfl _ rfl ([.int .i64 i, .int .i64 e, .slice q ops.length cap]) rfl ?_; clear M; intro gx w1 M) | ((with_reducible refine tGuard ?_); (with_reducible refine w_stripE ?_ ?_); (focus (refine ⟨_, rfl, ?_⟩; first | (with_reducible rfl) | exact decide_eq_false (by omega) | exact decide_eq_true (by omega)))) | ((with_reducible refine tGuard ?_); first | refine w_strip rfl (by with_reducible rfl) ?_ | ((fail_if_success (refine w_lit false rfl (by with_reducible rfl) ?_)); (fail_if_success (refine w_lit true rfl (by with_reducible rfl) ?_)); refine w_case rfl ?_ ?_ <;> (intro hgd; rw [hgd]; try (exfalso; simp at hgd; omega)))) | fail | ((with_reducible refine tLoad ?_); go_must (refine w_at _ _ rfl (by exact ev_tmp rfl) ?_; intro hx; (first | refine w_load M _ _ _ rfl (by first | exact at0) hx rfl (by decide +kernel) (by exact rfl) ?_ | refine w_loadR M _ _ _ rfl (by first | exact at0) hx rfl (by decide +kernel) (by kernel_rfl) ?_); clear hx)) | ((with_reducible refine tStore ?_); go_must (refine w_at2 _ _ _ rfl (by exact ev_tmp rfl) (by first | exact ev_tmp rfl | exact ev_const) ?_; intro hx hy; (first | refine w_store M _ _ _ _ rfl (by first | exact at0) hx rfl hy rfl rfl (by decide +kernel) (by first | decide | simp | (simp; omega)) ?_ | refine w_storeR M _ _ _ _ rfl (by first | exact at0) hx rfl _ hy rfl (by kernel_rfl) (by simp [Value.oneCell']) (by first | rfl | assumption) ?_); clear hx hy M; intro w1 M; (try simp only [setC] at M))) | ((with_reducible refine tBox _ ?_); (refine w_box M _ _ rfl rfl _ rfl _ rfl ?_; clear M; intro g w1 M))) <;> (try conv => arg 5; simp only [Act.put, List.setIfInBounds_toArray, setC]))
      go_ret
      exact ⟨rfl, M.below⟩
    · rw [right_e h (by omega)]
      have h4' : (ops.length : Int) ≤ 4 := by omega
      obtain ⟨R, eR⟩ : ∃ R, R = eachE cutE ops := ⟨_, rfl⟩
      rw [← eR] at E ⊢
      replace E := Lib.hid E
      clear h eR
      go_enter Try.func82, Try.ntmps82
      go_wp2_with ((first | ((with_reducible refine tBox (some 1) ?_); refine w_box M _ _ rfl rfl _ rfl ([.int .i64 i, .int .i64 e, .slice q ops.length cap]) rfl ?_; clear M; intro gx w1 M) | ((with_reducible refine tGuard ?_); (with_reducible refine w_stripE ?_ ?_); (focus (refine ⟨_, rfl, ?_⟩; first | (with_reducible rfl) | exact decide_eq_false (by omega) | exact decide_eq_true (by omega)))) | (go_at_call 88; go_must (refine (E.out _ (S.now M)).mono ?_; rintro e w1 ⟨rfl, hb⟩; replace M := M.call hb; clear hb)) | ((with_reducible refine tGuard ?_); first | refine w_strip rfl (by with_reducible rfl) ?_ | ((fail_if_success (refine w_lit false rfl (by with_reducible rfl) ?_)); (fail_if_success (refine w_lit true rfl (by with_reducible rfl) ?_)); refine w_case rfl ?_ ?_ <;> (intro hgd; rw [hgd]; try (exfalso; simp at hgd; omega)))) | fail | ((with_reducible refine tLoad ?_); go_must (refine w_at _ _ rfl (by exact ev_tmp rfl) ?_; intro hx; (first | refine w_load M _ _ _ rfl (by first | exact at0) hx rfl (by decide +kernel) (by exact rfl) ?_ | refine w_loadR M _ _ _ rfl (by first | exact at0) hx rfl (by decide +kernel) (by kernel_rfl) ?_); clear hx)) | ((with_reducible refine tStore ?_); go_must (refine w_at2 _ _ _ rfl (by exact ev_tmp rfl) (by first | exact ev_tmp rfl | exact ev_const) ?_; intro hx hy; (first | refine w_store M _ _ _ _ rfl (by first | exact at0) hx rfl hy rfl rfl (by decide +kernel) (by first | decide | simp | (simp; omega)) ?_ | refine w_storeR M _ _ _ _ rfl (by first | exact at0) hx rfl _ hy rfl (by kernel_rfl) (by simp [Value.oneCell']) (by first | rfl | assumption) ?_); clear hx hy M; intro w1 M; (try simp only [setC] at M))) | ((with_reducible refine tBox _ ?_); (refine w_box M _ _ rfl rfl _ rfl _ rfl ?_; clear M; intro g w1 M))) <;> (try conv => arg 5; simp only [Act.put, List.setIfInBounds_toArray, setC]))
      go_ret
      exact ⟨rfl, M.below⟩
end Go.Proofs.Ytoaabclemeibhaa

/- A new writer, as a piece of the walk's memory. No conditions. -/
namespace Go
namespace TL
open Go.RowKit
theorem Mem.outNew {F : List Nat} {w0 w : World} {g : Nat} {L : List Chunk} (M : Mem F w0 w (.row g [.slice none 0 0] :: L)) : Mem F w0 w (outC g (.slice none 0 0) [] :: L) := by
  have M2 := M.nil 1
  have M3 : Mem F w0 w (.row g [.slice none 0 0] :: .sl 1 (.slice none 0 0) ([] : List UInt8).length (bs []) :: L) := by
    refine M2.pick _ (fun i => if i = 0 then 1 else if i = 1 then 0 else i) ?_ ?_
    · intro i j hi hj h
      by_cases i0 : i = 0 <;> by_cases i1 : i = 1 <;> by_cases j0 : j = 0 <;> by_cases j1 : j = 1 <;> simp_all <;> omega
    · intro i c h
      match i with
      | 0 => exact h
      | 1 => exact h
      | i + 2 => simpa using h
  exact M3.outShut
end TL
end Go

/- Plain laws of a batch's reading, step by step. No program in this text. No conditions but those each lemma names. -/
namespace Go
namespace TL
theorem InS.byte_q (x : InS) : ∃ q : UInt8, x.byte.1 = q.toNat := by
  unfold InS.byte
  split
  · split
    · exact ⟨0, rfl⟩
    · rename_i b _ _; exact ⟨b, rfl⟩
  · exact ⟨0, rfl⟩
theorem rdO_zero (x : InS) : rdOps 0 x = ([], x) := rfl
theorem rdO_err {m n : Nat} {x x1 : InS} (h : x.byte = (n, x1)) (he : x1.err ≠ 0) : rdOps (m + 1) x = ([], x1) := by rw [rdOps, h, if_neg he]
theorem rdO_kind {m : Nat} {q : UInt8} {x x1 : InS} (h : x.byte = (q.toNat, x1)) (he : x1.err = 0) (hq : ¬ (q = 1 ∨ q = 2)) : rdOps (m + 1) x = ([], x1.bad 10) := by
  rw [rdOps, h, if_pos he, if_neg]
  rintro (e | e)
  · exact hq (.inl (UInt8.toNat_inj.1 e))
  · exact hq (.inr (UInt8.toNat_inj.1 e))
theorem rdO_put {m : Nat} {x x1 : InS} (h : x.byte = (UInt8.toNat 1, x1)) (he : x1.err = 0) : rdOps (m + 1) x = ((1, (x1.text 33).1, ((x1.text 33).2.text 32).1) :: (rdOps m ((x1.text 33).2.text 32).2).1, (rdOps m ((x1.text 33).2.text 32).2).2) := by
  simp only [rdOps, h, if_pos he]; rfl
theorem rdO_del {m : Nat} {x x1 : InS} (h : x.byte = (UInt8.toNat 2, x1)) (he : x1.err = 0) : rdOps (m + 1) x = ((2, (x1.text 33).1, []) :: (rdOps m (x1.text 33).2).1, (rdOps m (x1.text 33).2).2) := by
  simp only [rdOps, h, if_pos he]; rfl
theorem readB_fin {s : List UInt8} {i e n : Nat} {x0 x : InS} {d : List Opr} (h : nums3 s = (i, e, n, x0)) (hr : rdOps n x0 = (d, x)) (hf : x.fin ≠ 0) : readB s = ((0, 0, []), x.fin) := by
  unfold readB; simp only [h, hr]; rw [if_neg hf]
theorem readB_bad {s : List UInt8} {i e n : Nat} {x0 x : InS} {d : List Opr} {r : Nat} (h : nums3 s = (i, e, n, x0)) (hr : rdOps n x0 = (d, x)) (hf : x.fin = 0) (hp : rightB i e d = r) (hr0 : r ≠ 0) : readB s = ((0, 0, []), r) := by
  unfold readB; simp only [h, hr]; rw [if_pos hf, if_neg (by rw [hp]; exact hr0), hp]
theorem readB_ok {s : List UInt8} {i e n : Nat} {x0 x : InS} {d : List Opr} (h : nums3 s = (i, e, n, x0)) (hr : rdOps n x0 = (d, x)) (hf : x.fin = 0) (hp : rightB i e d = 0) : readB s = ((i, e, d), 0) := by
  unfold readB; simp only [h, hr]; rw [if_pos hf, if_pos hp]
theorem bad_fin (x : InS) {e : Nat} (h : e ≠ 0) : (x.bad e).fin = e := by unfold InS.bad InS.fin; rw [if_neg h]
theorem rdO_stop {x : InS} (h : x.err ≠ 0) : ∀ m, (rdOps m x).2.err = x.err
  | 0 => rfl
  | m + 1 => by
    have e : x.byte = (0, x) := by unfold InS.byte; rw [if_neg h]
    rw [rdO_err e h]
end TL
end Go

/- Plain laws of pack's reader: numbers and texts, read back and cut. No program in this text. No conditions but those each lemma names. -/
namespace Go
namespace TL
/-! ### Numbers and texts, read back and cut -/
theorem most_num {m n k : Nat} {r : List UInt8} (h : n ≤ m) (h64 : n < 18446744073709551616) : InS.most ⟨numL n ++ r, k, 0⟩ m = (n, ⟨r, k + (numL n).length, 0⟩) := by
  unfold InS.most InS.take
  simp only [if_true]
  rw [read_num n m r h64, if_neg (by omega)]
  simp
theorem text_text {m k : Nat} {t r : List UInt8} (h : t.length ≤ m) (h64 : t.length < 18446744073709551616) : InS.text ⟨textL t ++ r, k, 0⟩ m = (t, ⟨r, k + (textL t).length, 0⟩) := by
  unfold InS.text InS.take textL
  have e := read_num t.length m (t ++ r) h64
  rw [if_neg (by omega)] at e
  simp only [if_true, List.append_assoc]
  rw [e]
  simp only [if_true]
  rw [if_pos (by simp)]
  simp [List.drop_append]
theorem most_cut {m n k j : Nat} {r : List UInt8} (h : n ≤ m) (h64 : n < 18446744073709551616) :
    InS.most ⟨(numL n ++ r).take j, k, 0⟩ m = if j < (numL n).length then (0, ⟨(numL n).take j, k, 7⟩) else (n, ⟨r.take (j - (numL n).length), k + (numL n).length, 0⟩) := by
  rw [List.take_append]
  by_cases hj : j < (numL n).length
  · rw [if_pos hj, show j - (numL n).length = 0 by omega, List.take_zero, List.append_nil]
    unfold InS.most InS.take
    simp only [if_true]
    rw [read_short n m j h64 hj]; simp
  · rw [if_neg hj, List.take_of_length_le (by omega : (numL n).length ≤ j)]
    exact most_num h h64
theorem text_cut {m k j : Nat} {t r : List UInt8} (h : t.length ≤ m) (h64 : t.length < 18446744073709551616) :
    if j < (textL t).length then (InS.text ⟨(textL t ++ r).take j, k, 0⟩ m).2.err = 7 else InS.text ⟨(textL t ++ r).take j, k, 0⟩ m = (t, ⟨r.take (j - (textL t).length), k + (textL t).length, 0⟩) := by
  by_cases hj : j < (textL t).length
  · rw [if_pos hj]
    rw [List.take_append, show j - (textL t).length = 0 by omega, List.take_zero, List.append_nil]
    unfold textL at hj ⊢
    rw [List.take_append]
    unfold InS.text InS.take
    simp only [if_true]
    by_cases h2 : j < (numL t.length).length
    · rw [show j - (numL t.length).length = 0 by omega, List.take_zero, List.append_nil, read_short t.length m j h64 h2]
      simp
    · have e := read_num t.length m (t.take (j - (numL t.length).length)) h64
      rw [if_neg (by omega)] at e
      rw [List.take_of_length_le (by omega : (numL t.length).length ≤ j), e]
      simp only [if_true]
      rw [List.length_append] at hj
      rw [if_neg (by rw [List.length_append, List.length_take]; omega)]
      rfl
  · rw [if_neg hj, List.take_append, List.take_of_length_le (by omega : (textL t).length ≤ j)]
    exact text_text h h64
theorem most_ok {x : InS} {m n : Nat} {y : InS} (h : x.most m = (n, y)) (hx : x.err = 0) (hy : y.err = 0) : x.rest = numL n ++ y.rest ∧ n ≤ m := by
  unfold InS.most InS.take at h
  rw [if_pos hx] at h
  obtain ⟨⟨a, b, c⟩, e⟩ : ∃ R, R = readN x.rest m := ⟨_, rfl⟩
  rw [← e] at h
  simp only [Prod.mk.injEq] at h
  obtain ⟨rfl, rfl⟩ := h
  by_cases hc : c = 0
  · subst hc
    obtain ⟨h1, h2, h3, _⟩ := read_ok e.symm
    simp only [if_true]
    exact ⟨h1, h3⟩
  · rw [if_neg hc] at hy; exact absurd hy hc
theorem text_ok {x : InS} {m : Nat} {t : List UInt8} {y : InS} (h : x.text m = (t, y)) (hx : x.err = 0) (hy : y.err = 0) : x.rest = textL t ++ y.rest ∧ t.length ≤ m := by
  have hlen := InS.text_len x m
  rw [h] at hlen
  refine ⟨?_, hlen⟩
  unfold InS.text InS.take at h
  rw [if_pos hx] at h
  obtain ⟨⟨a, b, c⟩, e⟩ : ∃ R, R = readN x.rest m := ⟨_, rfl⟩
  rw [← e] at h
  by_cases hc : c = 0
  · subst hc
    obtain ⟨h1, h2, h3, _⟩ := read_ok e.symm
    simp only [if_true] at h
    split at h
    · rename_i hl
      simp only [Prod.mk.injEq] at h
      obtain ⟨rfl, rfl⟩ := h
      have e2 : ((x.rest.drop b).take a).length = a := by simp; omega
      unfold textL
      rw [e2, List.append_assoc]
      simp only
      rw [← List.drop_drop, List.take_append_drop]
      exact h1
    · simp only [Prod.mk.injEq] at h
      obtain ⟨_, rfl⟩ := h
      simp at hy
  · simp only [if_neg hc, Prod.mk.injEq] at h
    obtain ⟨_, rfl⟩ := h
    exact absurd hy hc
theorem most_err0 {x : InS} {m : Nat} (h : (x.most m).2.err = 0) : x.err = 0 := by
  by_cases hx : x.err = 0
  · exact hx
  · rw [InS.most_err hx] at h; exact h
theorem text_err0 {x : InS} {m : Nat} (h : (x.text m).2.err = 0) : x.err = 0 := by
  by_cases hx : x.err = 0
  · exact hx
  · rw [InS.text_err hx] at h; exact h
end TL
end Go
