/- The walks of layer 18's reference: a number's bytes, a hash that is read. Conditions: lengths. -/
import Derived.Test.YtoaabclemeibhaaVRef01B
import Derived.Test.YtoaabclemeibhaaVMsgM
namespace Go.Proofs.Ytoaabclemeibhaa
open Go.RowKit Go.TL
set_option maxRecDepth 100000 in
theorem num18_c (n : Nat) (a : Int) (ha : a = (n : Int)) (w : World) (h : n ≤ 9223372036854775807) :
    Calls Try.prog 36 #[.int .i64 a] w fun e w' => e = .returned (.string (mkS (numL n))) ∧ Below w.heap.size w w' := by
  subst ha
  have M := Mem.start [] w
  have e1 := I64_nat n (by omega)
  go_enter Try.func36, Try.ntmps36
  go_wp2_with ((go_at_call 64; go_must (refine (Num01_c n (n : Int) rfl _ (by omega)).mono ?_; rintro e w1 ⟨rfl, hb⟩; replace M := M.call hb; clear hb)))
  go_ret
  exact ⟨rfl, M.below⟩
section
variable (g : Nat) (s : List UInt8) (x : InS) (w : World) (h : (Chunk.row g (irB s x)).ok w) (hx : OnS s x) (hs : s.length ≤ 1000000000)
include h hx hs
set_option maxRecDepth 100000 in
set_option maxHeartbeats 4000000 in
theorem hash18_c : Calls Try.prog 30 #[.pointer (some ⟨g, 0, none⟩)] w fun e w' => e = .returned (.agg (bs (hashS zeroH x 32).2).toArray) ∧ Upd w (.row g (irB s x)) w' (.row g (irB s (hashS zeroH x 32).1)) := by
  have M := Mem.start1 h
  obtain ⟨S, eS⟩ : ∃ S, S = hashS zeroH x := ⟨_, rfl⟩
  have s0 : (S 0).1 = x := by rw [eS]; rfl
  have s1 : (S 0).2 = zeroH := by rw [eS]; rfl
  have son : ∀ n, OnS s (S n).1 := fun n => by rw [eS]; exact OnS.hash _ hx n
  have sl : ∀ n, (S n).2.length = 32 := fun n => by rw [eS]; exact hashS_len zeroH_len x n
  have sn : ∀ n, (S (n + 1)).1 = (S n).1.byte.2 := fun n => by rw [eS]; rfl
  have sb : ∀ n (b : UInt8), (S n).1.byte.1 = b.toNat → (S n).2.set n b = (S (n + 1)).2 := fun n b hb => by rw [eS, hashS_succ, ← eS, hb, UInt8.ofNat_toNat]
  rw [← eS]
  rw [← s0] at M
  replace sl := Lib.hid sl
  replace sn := Lib.hid sn
  replace sb := Lib.hid sb
  replace son := Lib.hid son
  have s1 := Lib.hid s1
  have S0X := Lib.hid s0
  clear eS
  have hfp : (Chunk.row g (irB s (S 0).1)).fp = [g] := rfl
  clear hfp
  go_enter Try.func30, Try.ntmps30
  go_wp2_with ((first | ((with_reducible refine tAlloc (some 2) 27 ?_); refine w_alloc M _ rfl rfl (.agg (bs zeroH).toArray) (bs zeroH) (by kernel_rfl) rfl ?_; clear M; intro gr w1 M) | ((with_reducible refine tAlloc (some 3) 27 ?_); refine w_alloc M _ rfl rfl (.agg (bs zeroH).toArray) (bs zeroH) (by kernel_rfl) rfl ?_; clear M; intro gh w1 M) | ((with_reducible refine tGuard ?_); refine w_strip rfl (by with_reducible rfl) ?_) | ((with_reducible refine tConv _ 41 9 ?_); go_must (first | refine w_stringW M _ _ _ _ _ rfl rfl (by first | exact at0) rfl (by first | assumption | exact lenI | exact lenS ‹_› | rfl) (by decide) Try.underlying41 Try.underlying5 Try.underlying9 ?_ | refine w_string M _ _ _ _ _ rfl rfl (by first | exact at0) (by first | rfl | (simp; done) | assumption) rfl Try.underlying41 Try.underlying5 Try.underlying9 ?_)) | ((with_reducible refine tLoad ?_); go_must (refine w_at _ _ rfl (by exact ev_tmp rfl) ?_; intro hx; (first | refine w_load M _ _ _ rfl (by first | exact at0) hx rfl (by decide +kernel) (by exact rfl) ?_ | refine w_loadB M _ _ _ rfl (by first | exact at0) hx rfl (by decide +kernel) (by first | assumption | omega | (simp; omega)) ?_ | refine w_loadH M _ _ _ rfl (by first | exact at0) hx rfl (by decide +kernel) (by first | assumption | exact lenI | exact lenS ‹_› | rfl) (by decide +kernel) ?_ | refine w_loadR M _ _ _ rfl (by first | exact at0) hx rfl (by decide +kernel) (by kernel_rfl) ?_); clear hx)) | ((with_reducible refine tStore ?_); go_must (refine w_at2 _ _ _ rfl (by exact ev_tmp rfl) (by first | exact ev_tmp rfl | exact ev_const) ?_; intro hx hy; (first | refine w_storeB M _ _ _ _ rfl (by first | exact at0) hx rfl hy (by decide +kernel) (by first | assumption | omega | (simp; omega)) ?_ | refine w_storeH M _ _ _ _ rfl (by first | exact at0) hx rfl hy (by first | assumption | exact lenI | exact lenS ‹_› | rfl) (by decide +kernel) (by first | assumption | exact lenI | exact lenS ‹_› | rfl) ?_ | refine w_store M _ _ _ _ rfl (by first | exact at0) hx rfl hy rfl rfl (by decide +kernel) (by first | decide | simp | (simp; omega)) ?_ | refine w_storeR M _ _ _ _ rfl (by first | exact at0) hx rfl _ hy rfl (by kernel_rfl) (by simp [Value.oneCell']) (by first | rfl | assumption) ?_); clear hx hy M; intro w1 M; (try simp only [setC] at M))) | ((with_reducible refine tBox _ ?_); (refine w_box M _ _ rfl rfl _ rfl _ rfl ?_; clear M; intro g w1 M))) <;> (try conv => arg 5; simp only [Act.put, List.setIfInBounds_toArray, setC]))
  rw [← s1.out] at M
  go_loopw [4] (fun iv wr => ∃ j : Nat, j ≤ 32 ∧ iv = .int .i64 j ∧ Mem (Chunk.row g (irB s (S 0).1)).fp w wr [.row gh (bs (S j).2), .row gr (bs (S 0).2), .row g (irB s (S j).1)]) (fun iv _ => 32 - (intOf iv).toNat)
  case atStart => exact ⟨0, by omega, rfl, M⟩
  case round =>
    clear M
    obtain ⟨j, hj, rfl, M⟩ := hrel
    by_cases hlt : j < 32
    · obtain ⟨b, hb⟩ := byte_some (S j).1
      have SB := sb.out j b hb
      have SL := sl.out j
      have YC := fun (w : World) h => InByte01_c g s (S j).1 w h (son.out j) hs
      rw [hb, ← I8_eq, ← sn.out j] at YC
      obtain ⟨y, ey⟩ : ∃ y, y = (S j).1 := ⟨_, rfl⟩
      obtain ⟨z, ez⟩ : ∃ z, z = (S (j + 1)).1 := ⟨_, rfl⟩
      obtain ⟨q, eq⟩ : ∃ q, q = (S j).2 := ⟨_, rfl⟩
      rw [← ey, ← eq] at M
      rw [← ey, ← ez] at YC
      rw [← eq] at SB SL
      have EZ := Lib.hid fun _ : Unit => ez
      replace SB := Lib.hid fun _ : Unit => SB
      replace YC := Lib.hid YC
      clear ey ez eq hb
      go_wp2_with ((first | (go_at_call 26; go_must (refine (YC.out _ (M.ok 2 _ rfl)).mono ?_; rintro r w2 ⟨rfl, U⟩; replace M := M.upd 2 rfl U; clear U; simp only [setC] at M)) | ((with_reducible refine tGuard ?_); refine w_strip rfl (by with_reducible rfl) ?_) | ((with_reducible refine tConv _ 41 9 ?_); go_must (first | refine w_stringW M _ _ _ _ _ rfl rfl (by first | exact at0) rfl (by first | assumption | exact lenI | exact lenS ‹_› | rfl) (by decide) Try.underlying41 Try.underlying5 Try.underlying9 ?_ | refine w_string M _ _ _ _ _ rfl rfl (by first | exact at0) (by first | rfl | (simp; done) | assumption) rfl Try.underlying41 Try.underlying5 Try.underlying9 ?_)) | ((with_reducible refine tLoad ?_); go_must (refine w_at _ _ rfl (by exact ev_tmp rfl) ?_; intro hx; (first | refine w_load M _ _ _ rfl (by first | exact at0) hx rfl (by decide +kernel) (by exact rfl) ?_ | refine w_loadB M _ _ _ rfl (by first | exact at0) hx rfl (by decide +kernel) (by first | assumption | omega | (simp; omega)) ?_ | refine w_loadH M _ _ _ rfl (by first | exact at0) hx rfl (by decide +kernel) (by first | assumption | exact lenI | exact lenS ‹_› | rfl) (by decide +kernel) ?_ | refine w_loadR M _ _ _ rfl (by first | exact at0) hx rfl (by decide +kernel) (by kernel_rfl) ?_); clear hx)) | ((with_reducible refine tStore ?_); go_must (refine w_at2 _ _ _ rfl (by exact ev_tmp rfl) (by first | exact ev_tmp rfl | exact ev_const) ?_; intro hx hy; (first | refine w_storeB M _ _ _ _ rfl (by first | exact at0) hx rfl hy (by decide +kernel) (by first | assumption | omega | (simp; omega)) ?_ | refine w_storeH M _ _ _ _ rfl (by first | exact at0) hx rfl hy (by first | assumption | exact lenI | exact lenS ‹_› | rfl) (by decide +kernel) (by first | assumption | exact lenI | exact lenS ‹_› | rfl) ?_ | refine w_store M _ _ _ _ rfl (by first | exact at0) hx rfl hy rfl rfl (by decide +kernel) (by first | decide | simp | (simp; omega)) ?_ | refine w_storeR M _ _ _ _ rfl (by first | exact at0) hx rfl _ hy rfl (by kernel_rfl) (by simp [Value.oneCell']) (by first | rfl | assumption) ?_); clear hx hy M; intro w1 M; (try simp only [setC] at M))) | ((with_reducible refine tBox _ ?_); (refine w_box M _ _ rfl rfl _ rfl _ rfl ?_; clear M; intro g w1 M))) <;> (try conv => arg 5; simp only [Act.put, List.setIfInBounds_toArray, setC]))
      go_roundw
      case rel => exact ⟨j + 1, by omega, by go_num, by rw [← EZ.out (), ← SB.out ()]; exact M⟩
      case measure => simp [intOf]; omega
    · obtain rfl : j = 32 := by omega
      have SL := sl.out 32
      have SL0 := sl.out 0
      obtain ⟨q, eq⟩ : ∃ q, q = (S 32).2 := ⟨_, rfl⟩
      obtain ⟨q0, eq0⟩ : ∃ q, q = (S 0).2 := ⟨_, rfl⟩
      rw [← eq, ← eq0] at M
      rw [← eq] at SL
      have EQ := Lib.hid fun _ : Unit => eq
      rw [← eq0] at SL0
      clear eq eq0
      go_wp2_with ((first | ((with_reducible refine tGuard ?_); refine w_strip rfl (by with_reducible rfl) ?_) | ((with_reducible refine tConv _ 41 9 ?_); go_must (first | refine w_stringW M _ _ _ _ _ rfl rfl (by first | exact at0 | exact at1) rfl (by first | assumption | exact lenI | exact lenS ‹_› | rfl) (by decide) Try.underlying41 Try.underlying5 Try.underlying9 ?_ | refine w_string M _ _ _ _ _ rfl rfl (by first | exact at0 | exact at1) (by first | rfl | (simp; done) | assumption) rfl Try.underlying41 Try.underlying5 Try.underlying9 ?_)) | ((with_reducible refine tLoad ?_); go_must (refine w_at _ _ rfl (by exact ev_tmp rfl) ?_; intro hx; (first | refine w_load M _ _ _ rfl (by first | exact at0 | exact at1) hx rfl (by decide +kernel) (by exact rfl) ?_ | refine w_loadB M _ _ _ rfl (by first | exact at0 | exact at1) hx rfl (by decide +kernel) (by first | assumption | omega | (simp; omega)) ?_ | refine w_loadH M _ _ _ rfl (by first | exact at0 | exact at1) hx rfl (by decide +kernel) (by first | assumption | exact lenI | exact lenS ‹_› | rfl) (by decide +kernel) ?_ | refine w_loadR M _ _ _ rfl (by first | exact at0 | exact at1) hx rfl (by decide +kernel) (by kernel_rfl) ?_); clear hx)) | ((with_reducible refine tStore ?_); go_must (refine w_at2 _ _ _ rfl (by exact ev_tmp rfl) (by first | exact ev_tmp rfl | exact ev_const) ?_; intro hx hy; (first | refine w_storeB M _ _ _ _ rfl (by first | exact at0 | exact at1) hx rfl hy (by decide +kernel) (by first | assumption | omega | (simp; omega)) ?_ | refine w_storeH M _ _ _ _ rfl (by first | exact at0 | exact at1) hx rfl hy (by first | assumption | exact lenI | exact lenS ‹_› | rfl) (by decide +kernel) (by first | assumption | exact lenI | exact lenS ‹_› | rfl) ?_ | refine w_store M _ _ _ _ rfl (by first | exact at0 | exact at1) hx rfl hy rfl rfl (by decide +kernel) (by first | decide | simp | (simp; omega)) ?_ | refine w_storeR M _ _ _ _ rfl (by first | exact at0 | exact at1) hx rfl _ hy rfl (by kernel_rfl) (by simp [Value.oneCell']) (by first | rfl | assumption) ?_); clear hx hy M; intro w1 M; (try simp only [setC] at M))) | ((with_reducible refine tBox _ ?_); (refine w_box M _ _ rfl rfl _ rfl _ rfl ?_; clear M; intro g w1 M))) <;> (try conv => arg 5; simp only [Act.put, List.setIfInBounds_toArray, setC]))
      exact bodyPost_ret (results_row rfl _ _ gr 0 (bs q) _ rfl (M.ok 1 _ rfl).2.1 Try.underlying27 rfl (by rw [bs_length, SL]; kernel_rfl)) rfl ⟨by rw [EQ.out ()], by rw [S0X.out] at M; exact M.upd1 2 rfl⟩
end
end Go.Proofs.Ytoaabclemeibhaa
