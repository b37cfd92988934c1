/- The walk of mac.Equal: it tells whether two arrays of 32 bytes are the same. No other conditions. -/
import Derived.Test.YtolmejipggdodaaLaw2
namespace Go
namespace TL
open Go.RowKit
/-- What differs among the first k bytes. -/
def diffB (a b : List UInt8) : Nat → UInt8
  | 0 => 0
  | k + 1 => diffB a b k ||| (a.getD k 0 ^^^ b.getD k 0)
theorem or_zero8 (x y : UInt8) : (x ||| y = 0) ↔ x = 0 ∧ y = 0 := by
  rw [← UInt8.toNat_inj, ← UInt8.toNat_inj, ← UInt8.toNat_inj, UInt8.toNat_or]
  simp [Nat.or_eq_zero_iff]
theorem xor_zero8 (x y : UInt8) : (x ^^^ y = 0) ↔ x = y := by
  constructor
  · intro h
    have : x ^^^ y ^^^ y = 0 ^^^ y := by rw [h]
    simpa [UInt8.xor_assoc] using this
  · rintro rfl; simp
theorem diffB_zero (a b : List UInt8) : ∀ k, diffB a b k = 0 ↔ ∀ i, i < k → a.getD i 0 = b.getD i 0
  | 0 => by simp [diffB]
  | k + 1 => by
    rw [diffB, or_zero8, diffB_zero a b k, xor_zero8]
    constructor
    · rintro ⟨h1, h2⟩ i hi
      by_cases e : i = k
      · subst e; exact h2
      · exact h1 i (by omega)
    · intro h; exact ⟨fun i hi => h i (by omega), h k (by omega)⟩
theorem diffB_eq (a b : List UInt8) (h : a.length = b.length) : (diffB a b a.length = 0) ↔ a = b := by
  rw [diffB_zero]
  constructor
  · intro k
    refine List.ext_getElem h fun i h1 h2 => ?_
    have := k i h1
    simpa [h1, h2] using this
  · rintro rfl i _; rfl
end TL
end Go
namespace Go.Proofs.Ytolmejipggdodaa
open Go.RowKit Go.TL
set_option maxHeartbeats 1000000 in
theorem Equal_any (a b : List UInt8) (ha : a.length = 32) (hb : b.length = 32) (w : World) :
    Calls Try.prog 20 #[.agg (a.map vb).toArray, .agg (b.map vb).toArray] w fun e w' => e = .returned (.bool (a == b)) ∧ Below w.heap.size w w' := by
  have hA0 : Hid (((w.alloc (.cells (a.map vb).toArray 23)).alloc (.cells (b.map vb).toArray 23)).rangeAt w.heap.size 0 (a.map vb)) := Lib.hid (rangeAt_of_block (rangeAt_new w (a.map vb).toArray 23 (0, 0)) (((Below.refl (w.heap.size + 1) _).alloc (by simp) (.cells (b.map vb).toArray 23)).block _ (by omega)))
  have hB0 : Hid (((w.alloc (.cells (a.map vb).toArray 23)).alloc (.cells (b.map vb).toArray 23)).rangeAt (w.heap.size + 1) 0 (b.map vb)) := Lib.hid (by have := rangeAt_new (w.alloc (.cells (a.map vb).toArray 23)) (b.map vb).toArray 23 (0, 0); simpa using this)
  go_enter Try.func20, Try.ntmps20
  go_wp2_with fail
  go_loopw [5, 7] (fun v iv wr => ∃ k : Nat, k ≤ 32 ∧ iv = .int .i64 k ∧ v = .int .u8 (I8 (diffB a b k)) ∧ Below (w.heap.size + 2) ((w.alloc (.cells (a.map vb).toArray 23)).alloc (.cells (b.map vb).toArray 23)) wr) (fun _ iv _ => 32 - (intOf iv).toNat)
  case atStart => exact ⟨0, by omega, rfl, rfl, Below.refl _ _⟩
  case round =>
    obtain ⟨k, hk, rfl, rfl, hbel⟩ := hrel
    have Hb := Lib.hid hbel; clear hbel
    by_cases hlt : k < 32
    · obtain ⟨x, hx⟩ : ∃ x, x = a.getD k 0 := ⟨_, rfl⟩
      obtain ⟨y, hy⟩ : ∃ y, y = b.getD k 0 := ⟨_, rfl⟩
      obtain ⟨dk, hd⟩ : ∃ d, d = diffB a b k := ⟨_, rfl⟩
      have c1 : wr.cell? ⟨w.heap.size, k, none⟩ = some (.int .u8 (I8 x)) := by
        have := rangeAt_of_block hA0.out (Hb.out.block _ (by omega)) k (vb x) (by rw [hx]; simp [ha, hlt])
        rwa [Nat.zero_add] at this
      have c2 : wr.cell? ⟨w.heap.size + 1, k, none⟩ = some (.int .u8 (I8 y)) := by
        have := rangeAt_of_block hB0.out (Hb.out.block _ (by omega)) k (vb y) (by rw [hy]; simp [hb, hlt])
        rwa [Nat.zero_add] at this
      have e : diffB a b (k + 1) = dk ||| (x ^^^ y) := by rw [diffB, hx, hy, hd]
      rw [← hd]
      have E := Lib.hid e
      clear e hx hy hd
      go_wp2_with fail
      refine region_det [(0, false), (1, false), (2, false), (4, false), (5, false), (3, false), (6, false), (7, false), (8, false), (9, false)] [(13, .int), (16, .int), (10, .int), (17, .int)] (by kernel_rfl) (by kernel_rfl) rfl (by kernel_rfl) ?_
      simp only [reord, opAt, List.map_cons, List.map_nil, List.getElem?_toArray, List.getElem?_cons_zero, List.getElem?_cons_succ, Option.getD_some]
      go_wp2_with fail
      refine OnlyN.intro (by kernel_rfl) ?_
      go_wp2_with fail
      go_roundw
      case rel => exact ⟨k + 1, by omega, by go_num, by rw [E.out], Hb.out.drew⟩
      case measure => simp [intOf]; omega
    · have hk' : k = 32 := by omega
      subst hk'
      have hq : (I8 (diffB a b 32) == 0) = (a == b) := by
        rw [Bool.eq_iff_iff, beq_iff_eq, beq_iff_eq, ← diffB_eq a b (by omega), ha, I8_eq]
        constructor
        · intro h; exact UInt8.toNat_inj.1 (by simpa using h)
        · intro h; rw [h]; rfl
      go_wp2_with fail
      go_ret
      refine ⟨rfl, ?_⟩
      have B0 : Below w.heap.size w ((w.alloc (.cells (a.map vb).toArray 23)).alloc (.cells (b.map vb).toArray 23)) := ((Below.refl _ w).alloc (Nat.le_refl _) _).alloc (by simp) _
      exact B0.trans (Hb.out.mono (by omega))
end Go.Proofs.Ytolmejipggdodaa
