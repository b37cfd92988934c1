/- The walk of the reference's Digits. No conditions but 32 bytes. -/
import Derived.Test.YtolmejipggdodaaHash
namespace Go
namespace TL
theorem hexHi (b : UInt8) : hexTab.extract (I8 (w8 ((I8 b).tdiv 16))).toNat (I8 (w8 ((I8 b).tdiv 16) + 1)).toNat = ⟨#[hexD (b >>> 4)]⟩ := by
  have h : ∀ n : Fin 256, hexTab.extract (I8 (w8 ((I8 (UInt8.ofNat n.1)).tdiv 16))).toNat (I8 (w8 ((I8 (UInt8.ofNat n.1)).tdiv 16) + 1)).toNat = ⟨#[hexD (UInt8.ofNat n.1 >>> 4)]⟩ := by decide +kernel
  have := h ⟨b.toNat, UInt8.toNat_lt b⟩
  rwa [UInt8.ofNat_toNat] at this
theorem hexLo (b : UInt8) : hexTab.extract ((I8 b).tmod 16).toNat (I8 (w8 ((I8 b).tmod 16) + 1)).toNat = ⟨#[hexD (b &&& 15)]⟩ := by
  have h : ∀ n : Fin 256, hexTab.extract ((I8 (UInt8.ofNat n.1)).tmod 16).toNat (I8 (w8 ((I8 (UInt8.ofNat n.1)).tmod 16) + 1)).toNat = ⟨#[hexD (UInt8.ofNat n.1 &&& 15)]⟩ := by decide +kernel
  have := h ⟨b.toNat, UInt8.toNat_lt b⟩
  rwa [UInt8.ofNat_toNat] at this
theorem hexHiB (b : UInt8) : 0 ≤ I8 (w8 ((I8 b).tdiv 16)) ∧ I8 (w8 ((I8 b).tdiv 16)) ≤ I8 (w8 ((I8 b).tdiv 16) + 1) ∧ I8 (w8 ((I8 b).tdiv 16) + 1) ≤ 16 := by
  have h : ∀ n : Fin 256, 0 ≤ I8 (w8 ((I8 (UInt8.ofNat n.1)).tdiv 16)) ∧ I8 (w8 ((I8 (UInt8.ofNat n.1)).tdiv 16)) ≤ I8 (w8 ((I8 (UInt8.ofNat n.1)).tdiv 16) + 1) ∧ I8 (w8 ((I8 (UInt8.ofNat n.1)).tdiv 16) + 1) ≤ 16 := by decide +kernel
  have := h ⟨b.toNat, UInt8.toNat_lt b⟩
  rwa [UInt8.ofNat_toNat] at this
theorem hexLoB (b : UInt8) : 0 ≤ (I8 b).tmod 16 ∧ (I8 b).tmod 16 ≤ I8 (w8 ((I8 b).tmod 16) + 1) ∧ I8 (w8 ((I8 b).tmod 16) + 1) ≤ 16 := by
  have h : ∀ n : Fin 256, 0 ≤ (I8 (UInt8.ofNat n.1)).tmod 16 ∧ (I8 (UInt8.ofNat n.1)).tmod 16 ≤ I8 (w8 ((I8 (UInt8.ofNat n.1)).tmod 16) + 1) ∧ I8 (w8 ((I8 (UInt8.ofNat n.1)).tmod 16) + 1) ≤ 16 := by decide +kernel
  have := h ⟨b.toNat, UInt8.toNat_lt b⟩
  rwa [UInt8.ofNat_toNat] at this
theorem bytes_append (a b : List UInt8) : (⟨a.toArray⟩ : ByteArray) ++ ⟨b.toArray⟩ = ⟨(a ++ b).toArray⟩ := by
  apply ByteArray.ext; simp
theorem bytes_size (a : List UInt8) : (⟨a.toArray⟩ : ByteArray).size = a.length := by simp [ByteArray.size]
end TL
end Go
namespace Go.Proofs.Ytolmejipggdodaa
open Go.RowKit Go.TL
set_option maxHeartbeats 1000000 in
theorem refDigits_any (l : List UInt8) (hl : l.length = 32) (w : World) :
    Calls Try.prog 15 #[.agg (l.map vb).toArray] w fun e w' => e = .returned (.string ⟨(hexB l).toArray⟩) ∧ Below w.heap.size w w' := by
  have hR := Lib.hid (rangeAt_new w (l.map vb).toArray 22 (0, 0))
  go_enter Try.func15, Try.ntmps15
  go_wp2
  go_loopw [3, 4] (fun v iv wr => ∃ k : Nat, k ≤ 32 ∧ iv = .int .i64 k ∧ v = .string ⟨(hexB (l.take k)).toArray⟩ ∧ Below (w.heap.size + 1) (w.alloc (.cells (l.map vb).toArray 22)) wr) (fun _ iv _ => 32 - (intOf iv).toNat)
  case atStart => exact ⟨0, by omega, rfl, rfl, Below.refl _ _⟩
  case round =>
    obtain ⟨k, hk, rfl, rfl, hb⟩ := hrel
    have Hb := Lib.hid hb; clear hb
    by_cases hlt : k < 32
    · have hlk : k < l.length := by omega
      have hc : wr.cell? ⟨w.heap.size, k, none⟩ = some (.int .u8 (I8 l[k])) := by
        have e := Hb.out.block w.heap.size (by omega)
        rw [World.cell?_of_block (a := ⟨w.heap.size, k, none⟩) e]
        have := hR.out k (vb l[k]) (by simp [hlk])
        rwa [Nat.zero_add] at this
      obtain ⟨y0, y1, y2⟩ := hexHiB l[k]
      obtain ⟨z0, z1, z2⟩ := hexLoB l[k]
      have hs16 : hexTab.size = 16 := rfl
      have x1 := hexHi l[k]
      have x2 := hexLo l[k]
      have hlen : (hexB (l.take k)).length = 2 * k := by rw [hexB_length, List.length_take]; omega
      have s1 : (⟨(hexB (l.take k)).toArray⟩ : ByteArray).size = 2 * k := by rw [bytes_size, hlen]
      have e1 : (⟨(hexB (l.take k)).toArray⟩ : ByteArray) ++ ⟨#[hexD (l[k] >>> 4)]⟩ = ⟨(hexB (l.take k) ++ [hexD (l[k] >>> 4)]).toArray⟩ := bytes_append _ [hexD (l[k] >>> 4)]
      have s2 : (⟨(hexB (l.take k) ++ [hexD (l[k] >>> 4)]).toArray⟩ : ByteArray).size = 2 * k + 1 := by rw [bytes_size]; simp [hlen]
      have e2 : (⟨(hexB (l.take k) ++ [hexD (l[k] >>> 4)]).toArray⟩ : ByteArray) ++ ⟨#[hexD (l[k] &&& 15)]⟩ = ⟨(hexB (l.take (k + 1))).toArray⟩ := by
        rw [show (⟨#[hexD (l[k] &&& 15)]⟩ : ByteArray) = ⟨[hexD (l[k] &&& 15)].toArray⟩ from rfl, bytes_append, List.take_succ_eq_append_getElem hlk, hexB_snoc]; simp
      go_wp2_with fail
      refine region_det [(0, false), (1, false), (2, false), (5, false), (6, false), (12, false), (13, false), (16, false), (17, false), (3, false), (4, false), (7, false), (8, false), (9, false), (10, false), (11, false), (14, false), (15, false), (18, false), (19, false), (20, false), (21, false), (22, false), (23, false)] [(12, .int), (16, .int), (17, .int), (9, .str), (19, .str), (23, .int), (27, .int), (28, .int), (20, .str), (30, .str)] (by kernel_rfl) (by kernel_rfl) rfl (by kernel_rfl) ?_
      simp only [reord, opAt, List.map_cons, List.map_nil, List.getElem?_toArray, List.getElem?_cons_zero, List.getElem?_cons_succ, Option.getD_some]
      go_wp2_with fail
      refine OnlyN.intro (by kernel_rfl) ?_
      go_wp2_with fail
      go_round
      case rel => exact ⟨k + 1, by omega, by go_num, rfl, Hb.out.drew⟩
      case measure => simp [intOf]; omega
    · have hk' : k = 32 := by omega
      subst hk'
      go_wp2_with fail
      go_ret
      rw [show l.take 32 = l from by rw [← hl, List.take_length]]
      exact ⟨rfl, ((Below.refl _ w).alloc (Nat.le_refl _) _).trans (Hb.out.mono (by omega))⟩
end Go.Proofs.Ytolmejipggdodaa
