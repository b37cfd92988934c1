/- Plain: a nonce's bytes, one by one. No conditions but those each lemma names. -/
import Derived.Test.YtidadhbaomieiaaGreatZd
namespace Go
namespace TL
theorem byte32 (b : UInt32) (m : Nat) (c : UInt64) (hc : (8 * c).toNat % 64 = m) : w8 (I32 b / 2 ^ m) = (b.toUInt64 >>> (8 * c)).toUInt8 := by
  apply UInt8.toNat_inj.1
  rw [toNat_w8, I32_eq, UInt64.toNat_toUInt8, UInt64.toNat_shiftRight, UInt32.toNat_toUInt64, hc, Nat.shiftRight_eq_div_pow]
  have e : ((b.toNat : Nat) : Int) / 2 ^ m = ((b.toNat / 2 ^ m : Nat) : Int) := by simp
  rw [e]; omega
theorem byte64 (n : UInt64) (m : Nat) (c : UInt64) (hc : (8 * c).toNat % 64 = m) : w8 (I64 n / 2 ^ m) = (n >>> (8 * c)).toUInt8 := by
  apply UInt8.toNat_inj.1
  rw [toNat_w8, I64_eq, UInt64.toNat_toUInt8, UInt64.toNat_shiftRight, hc, Nat.shiftRight_eq_div_pow]
  have e : ((n.toNat : Nat) : Int) / 2 ^ m = ((n.toNat / 2 ^ m : Nat) : Int) := by simp
  rw [e]; omega
theorem nonce_lo (b : UInt32) (n : UInt64) (j : Nat) (h : j < 4) : w8 (I32 b / 2 ^ (24 - 8 * j)) = nth (nonceL b n) j := by
  match j, h with
  | 0, _ => exact byte32 b 24 (UInt64.ofNat 3) (by decide)
  | 1, _ => exact byte32 b 16 (UInt64.ofNat 2) (by decide)
  | 2, _ => exact byte32 b 8 (UInt64.ofNat 1) (by decide)
  | 3, _ => exact byte32 b 0 (UInt64.ofNat 0) (by decide)
theorem nonce_hi (b : UInt32) (n : UInt64) (j : Nat) (h : 4 ≤ j) (h2 : j < 12) : w8 (I64 n / 2 ^ (88 - 8 * j)) = nth (nonceL b n) j := by
  match j, h, h2 with
  | 4, _, _ => exact byte64 n 56 (UInt64.ofNat 7) (by decide)
  | 5, _, _ => exact byte64 n 48 (UInt64.ofNat 6) (by decide)
  | 6, _, _ => exact byte64 n 40 (UInt64.ofNat 5) (by decide)
  | 7, _, _ => exact byte64 n 32 (UInt64.ofNat 4) (by decide)
  | 8, _, _ => exact byte64 n 24 (UInt64.ofNat 3) (by decide)
  | 9, _, _ => exact byte64 n 16 (UInt64.ofNat 2) (by decide)
  | 10, _, _ => exact byte64 n 8 (UInt64.ofNat 1) (by decide)
  | 11, _, _ => exact byte64 n 0 (UInt64.ofNat 0) (by decide)
theorem take_next (l : List UInt8) (m j : Nat) (h : l.length = m) (hj : j < m) : (l.take j ++ List.replicate (m - j) (0 : UInt8)).set j (nth l j) = l.take (j + 1) ++ List.replicate (m - (j + 1)) 0 := by
  rw [List.take_succ_eq_append_getElem (show j < l.length by omega)]
  have e1 : (l.take j).length = j := by simp; omega
  rw [List.set_append_right _ _ (by omega), e1, Nat.sub_self, show m - j = (m - (j + 1)) + 1 by omega, List.replicate_succ, List.set_cons_zero, List.append_assoc, nth_at l j (by omega)]
  rfl
theorem nonce_hj (b : UInt32) (n : UInt64) (j : Nat) (h : j < 8) : w8 (I64 n / 2 ^ (56 - 8 * j)) = nth (nonceL b n) (4 + j) := by
  rw [← nonce_hi b n (4 + j) (by omega) (by omega), show 88 - 8 * (4 + j) = 56 - 8 * j by omega]
end TL
end Go
