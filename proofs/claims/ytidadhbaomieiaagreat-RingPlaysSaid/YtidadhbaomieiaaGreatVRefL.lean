/- The reference's hash in plain words: of the whole padded text at once it is package sha's. No program is in sight; no conditions. -/
import Derived.Test.YtidadhbaomieiaaGreatZb
namespace Go
namespace TL
theorem absorb_take (n : Nat) : ∀ (h : St) (l : List UInt8), absorb n h (l.take (64 * n)) = absorb n h l := by
  induction n with
  | zero => intro h l; rfl
  | succ n ih =>
    intro h l
    rw [absorb, absorb, List.take_take, Nat.min_eq_left (by omega), List.drop_take, show 64 * (n + 1) - 64 = 64 * n by omega, ih]
theorem absorb_add (a b : Nat) : ∀ (h : St) (l : List UInt8), absorb (a + b) h l = absorb b (absorb a h l) (l.drop (64 * a)) := by
  induction a with
  | zero => intro h l; rw [Nat.zero_add]; simp [absorb]
  | succ a ih =>
    intro h l
    rw [show a + 1 + b = (a + b) + 1 by omega, absorb, ih, absorb, List.drop_drop, show 64 + 64 * a = 64 * (a + 1) by omega]
/-- The whole padded text. -/
def padT (l : List UInt8) : List UInt8 := l ++ [128] ++ List.replicate (zpad l.length) 0 ++ bigB (UInt64.ofNat l.length * 8) 8
theorem zpad_mod (n : Nat) : zpad (n % 64) = zpad n := by unfold zpad; rw [Nat.mod_mod]
theorem padT_length (l : List UInt8) : (padT l).length % 64 = 0 := by
  simp only [padT, List.length_append, List.length_replicate, bigB_length, List.length_cons, List.length_nil, zpad]; omega
theorem shaL_whole (l : List UInt8) : shaL l = outB (absorb ((padT l).length / 64) H0 (padT l)) := by
  have hd : (l.drop (64 * (l.length / 64))).length = l.length % 64 := by rw [List.length_drop]; omega
  have e1 : (padT l).drop (64 * (l.length / 64)) = padB (l.drop (64 * (l.length / 64))) l.length := by
    simp only [padT, padB, hd, zpad_mod, List.append_assoc]
    rw [List.drop_append_of_le_length (by omega)]
  have e2 : (padT l).length / 64 = l.length / 64 + (padB (l.drop (64 * (l.length / 64))) l.length).length / 64 := by
    rw [← e1, List.length_drop]
    have : 64 * (l.length / 64) ≤ (padT l).length := by simp only [padT, List.length_append]; omega
    omega
  have e3 : absorb (l.length / 64) H0 (padT l) = absorb (l.length / 64) H0 l := by
    rw [← absorb_take, ← absorb_take _ _ l]
    congr 1
    simp only [padT, List.append_assoc]
    rw [List.take_append_of_le_length (by omega)]
  rw [e2, absorb_add, e1, e3]
  rfl
theorem out_byte (x : UInt32) (j : Nat) (h : j < 4) : (bigB x.toUInt64 4).getD j 0 = (x >>> UInt32.ofNat (24 - 8 * j)).toUInt8 := by
  have hx := x.toNat_lt
  have : j = 0 ∨ j = 1 ∨ j = 2 ∨ j = 3 := by omega
  rcases this with rfl | rfl | rfl | rfl <;> apply UInt8.toNat_inj.1 <;> simp [bigB]
theorem outB_get (s : St) (i : Nat) (h : i < 32) : (outB s).getD i 0 = (s.words.getD (i / 4) 0 >>> UInt32.ofNat (24 - 8 * (i % 4))).toUInt8 := by
  have hw : ∀ k j, k < 8 → j < 4 → (outB s).getD (4 * k + j) 0 = (bigB (s.words.getD k 0).toUInt64 4).getD j 0 := by
    intro k j hk hj
    have h1 : k = 0 ∨ k = 1 ∨ k = 2 ∨ k = 3 ∨ k = 4 ∨ k = 5 ∨ k = 6 ∨ k = 7 := by omega
    have h2 : j = 0 ∨ j = 1 ∨ j = 2 ∨ j = 3 := by omega
    rcases h1 with rfl | rfl | rfl | rfl | rfl | rfl | rfl | rfl <;> rcases h2 with rfl | rfl | rfl | rfl <;> rfl
  have := hw (i / 4) (i % 4) (by omega) (by omega)
  rw [show 4 * (i / 4) + i % 4 = i by omega] at this
  rw [this, out_byte _ _ (by omega)]
end TL
end Go
