/- The walks of bits.RotateLeft32, of the reference's rot, of getBig and putBig of package sha. Conditions: each theorem names its own. -/
import Derived.Test.YtolmejipggdodaaBase
namespace Go
namespace TL
theorem and31 (k : Int) (m : Nat) (hk : k = - (m : Int)) (hm : 1 ≤ m) (hm2 : m ≤ 31) : I64 (w64 k &&& 31) = ((32 - m : Nat) : Int) := by
  have : m = 1 ∨ m = 2 ∨ m = 3 ∨ m = 4 ∨ m = 5 ∨ m = 6 ∨ m = 7 ∨ m = 8 ∨ m = 9 ∨ m = 10 ∨ m = 11 ∨ m = 12 ∨ m = 13 ∨ m = 14 ∨ m = 15 ∨ m = 16 ∨ m = 17 ∨ m = 18 ∨ m = 19 ∨ m = 20 ∨ m = 21 ∨ m = 22 ∨ m = 23 ∨ m = 24 ∨ m = 25 ∨ m = 26 ∨ m = 27 ∨ m = 28 ∨ m = 29 ∨ m = 30 ∨ m = 31 := by omega
  subst hk
  rcases this with h | h | h | h | h | h | h | h | h | h | h | h | h | h | h | h | h | h | h | h | h | h | h | h | h | h | h | h | h | h | h <;> subst h <;> decide
theorem sub32 (m : Nat) (hm : 1 ≤ m) (hm2 : m ≤ 31) : I64 (32 - w64 m) = ((32 - m : Nat) : Int) := by
  rw [w64_nat, I64_eq, UInt64.toNat_sub, UInt64.toNat_ofNat]; simp; omega
theorem sub32' (m : Nat) (hm : 1 ≤ m) (hm2 : m ≤ 31) : I64 (32 - w64 ((32 - m : Nat) : Int)) = (m : Int) := by
  rw [w64_nat, I64_eq, UInt64.toNat_sub, UInt64.toNat_ofNat]; simp; omega
/-- Turned to the right by m bits. -/
def ror (x : UInt32) (m : Nat) : UInt32 := (x >>> UInt32.ofNat m) ||| (x <<< UInt32.ofNat (32 - m))
def be64 (l : List UInt8) : UInt64 := l.foldl (fun x b => (x <<< 8) ||| b.toUInt64) 0
theorem be64_snoc (l : List UInt8) (b : UInt8) : be64 (l ++ [b]) = (be64 l <<< 8) ||| b.toUInt64 := by simp [be64]
theorem take_snoc (s : ByteArray) (k : Nat) (h : k < s.size) : s.data.toList.take (k + 1) = s.data.toList.take k ++ [s[k]] := by
  rw [List.take_succ_eq_append_getElem (by simpa using h)]; rfl
/-- A number's lowest n bytes, the highest one first. -/
def bigB (x : UInt64) : Nat → List UInt8
  | 0 => []
  | n + 1 => (x >>> (8 * UInt64.ofNat n)).toUInt8 :: bigB x n
theorem bigB_length (x : UInt64) (n : Nat) : (bigB x n).length = n := by
  induction n with
  | zero => rfl
  | succ n ih => simp [bigB, ih]
end TL
end Go
namespace Go.Proofs.Ytolmejipggdodaa
open Go.RowKit Go.TL
set_option maxHeartbeats 400000 in
theorem rot_any (x : UInt32) (m : Nat) (k : Int) (w : World) (hk : k = - (m : Int)) (hm : 1 ≤ m) (hm2 : m ≤ 31) :
    Calls Try.prog 52 #[.int .u32 (I32 x), .int .i64 k] w fun e w' => e = .returned (.int .u32 (I32 (ror x m))) ∧ w = w' := by
  have h1 := and31 k m hk hm hm2; clear hk
  have h2 := sub32' m hm hm2
  have h3 : (m : Int) ≤ 31 := by omega
  have h4 : ((32 - m : Nat) : Int) ≤ 31 := by omega
  go_enter Try.func52, Try.ntmps52
  go_wp2
  go_ret
  exact ⟨by rw [ror, UInt32.or_comm]; rfl, rfl⟩
set_option maxHeartbeats 400000 in
theorem refrot_any (x : UInt32) (m : Nat) (w : World) (hm : 1 ≤ m) (hm2 : m ≤ 31) :
    Calls Try.prog 45 #[.int .u32 (I32 x), .int .u64 m] w fun e w' => e = .returned (.int .u32 (I32 (ror x m))) ∧ w = w' := by
  have h2 := sub32 m hm hm2
  have h3 : (m : Int) ≤ 31 := by omega
  have h4 : ((32 - m : Nat) : Int) ≤ 31 := by omega
  go_enter Try.func45, Try.ntmps45
  go_wp2
  go_ret
  exact ⟨rfl, rfl⟩
set_option maxHeartbeats 400000 in
theorem getBig_any (s : ByteArray) (n : Nat) (w : World) (hs : n ≤ s.size) (hn : n ≤ 1000) :
    Calls Try.prog 51 #[.string s, .int .i64 n] w fun e w' => e = .returned (.int .u64 (I64 (be64 (s.data.toList.take n)))) ∧ w = w' := by
  go_enter Try.func51, Try.ntmps51
  go_wp2
  go_loop [4, 7] (fun x i => ∃ k : Nat, k ≤ n ∧ i = .int .i64 k ∧ x = .int .u64 (I64 (be64 (s.data.toList.take k)))) (fun _ i => n - (intOf i).toNat)
  case atStart => exact ⟨0, by omega, rfl, rfl⟩
  case round =>
    obtain ⟨k, hk, rfl, rfl⟩ := hrel
    by_cases hlt : k < n
    · have hk4 : k < s.size := by omega
      have H := Lib.hid (take_snoc s k hk4)
      go_wp2
      go_round
      case rel => exact ⟨k + 1, by omega, by go_num, by rw [H.out, be64_snoc]⟩
      case measure => simp [intOf]; omega
    · go_wp2
      go_ret
      have : k = n := by omega
      subst this
      exact ⟨rfl, rfl⟩
set_option maxHeartbeats 400000 in
theorem putBig_any (base : Nat) (v : Value) (l : List UInt8) (x : UInt64) (n : Nat) (w : World) (hown : OwnB w base v l) (hbase : base ≤ w.heap.size) (hn : n ≤ 8) (hl : l.length ≤ 1000000000000) :
    Calls Try.prog 42 #[v, .int .u64 (I64 x), .int .i64 n] w fun e w' => ∃ v', e = .returned v' ∧ OwnB w' base v' (l ++ bigB x n) ∧ w.grownBy w' v.ownBlock ∧ FreshOr w v v' := by
  go_enter Try.func42, Try.ntmps42
  go_wp2
  go_loopw [0, 7] (fun b i wr => ∃ (j : Nat) (done : List UInt8), j ≤ n ∧ i = .int .i64 ((j : Int) - 1) ∧ done.length ≤ 8 ∧ done ++ bigB x j = bigB x n ∧ OwnB wr base b (l ++ done) ∧ w.grownBy wr v.ownBlock ∧ FreshOr w v b) (fun _ i _ => (intOf i + 1).toNat)
  case atStart => exact ⟨n, [], by omega, rfl, by simp, rfl, by simpa using hown, grownBy_refl _ _, .inl rfl⟩
  case round =>
    obtain ⟨j, done, hj, rfl, hd, H, ho, hg, hf⟩ := hrel
    have H' := Lib.hid H; clear H
    have ho' := Lib.hid ho; clear ho
    have hg' := Lib.hid hg; clear hg
    have hf' := Lib.hid hf; clear hf
    cases j with
    | zero =>
      go_wp2
      go_ret
      have hx : done = bigB x n := by have := H'.out; simpa [bigB] using this
      subst hx
      exact ⟨_, rfl, ho'.out, hg'.out, hf'.out⟩
    | succ i =>
      have e : ((i + 1 : Nat) : Int) - 1 = i := by omega
      rw [e]; clear e
      have b1 : 8 * (i : Int) ≤ 63 := by omega
      have b0 : 0 ≤ 8 * (i : Int) := by omega
      go_wp2_with (at_builtin; refine wpList_append_new bytesT rfl (.tmp 14) (.tmp 20) rfl base wr [_] _ _ rfl u0 (l ++ done) rfl ho'.out rfl ?_ ?_ ?_)
      · simp; omega
      · have := hg'.out.size; omega
      · intro v' w1 hown1 hg1 hf1
        have hg2 := Lib.hid (grow_step hg'.out hf'.out hg1)
        have hf2 := Lib.hid (fresh_trans hg'.out.size hf'.out hf1)
        have hown2 := Lib.hid hown1
        clear hown1 hg1 hf1
        go_wp2
        go_roundw
        case rel => exact ⟨i, done ++ [(x >>> (8 * UInt64.ofNat i)).toUInt8], by omega, by go_num, by have := bigB_length x n; rw [← H'.out] at this; simp [bigB, bigB_length] at this ⊢; omega, by rw [← H'.out]; simp [bigB], hown2.out, hg2.out, hf2.out⟩
        case measure => simp [intOf]
end Go.Proofs.Ytolmejipggdodaa
