/- The walks of begin, numbers, New and none of package sha: the object as it is first. No conditions. -/
import Derived.Test.YtolmejipggdodaaTurn
namespace Go
namespace TL
open Go.RowKit
def H0 : St := ⟨0x6a09e667, 0xbb67ae85, 0x3c6ef372, 0xa54ff53a, 0x510e527f, 0x9b05688c, 0x1f83d9ab, 0x5be0cd19⟩
def K64 : List UInt32 := [
  0x428a2f98, 0x71374491, 0xb5c0fbcf, 0xe9b5dba5, 0x3956c25b, 0x59f111f1, 0x923f82a4, 0xab1c5ed5,
  0xd807aa98, 0x12835b01, 0x243185be, 0x550c7dc3, 0x72be5d74, 0x80deb1fe, 0x9bdc06a7, 0xc19bf174,
  0xe49b69c1, 0xefbe4786, 0x0fc19dc6, 0x240ca1cc, 0x2de92c6f, 0x4a7484aa, 0x5cb0a9dc, 0x76f988da,
  0x983e5152, 0xa831c66d, 0xb00327c8, 0xbf597fc7, 0xc6e00bf3, 0xd5a79147, 0x06ca6351, 0x14292967,
  0x27b70a85, 0x2e1b2138, 0x4d2c6dfc, 0x53380d13, 0x650a7354, 0x766a0abb, 0x81c2c92e, 0x92722c85,
  0xa2bfe8a1, 0xa81a664b, 0xc24b8b70, 0xc76c51a3, 0xd192e819, 0xd6990624, 0xf40e3585, 0x106aa070,
  0x19a4c116, 0x1e376c08, 0x2748774c, 0x34b0bcb5, 0x391c0cb3, 0x4ed8aa4a, 0x5b9cca4f, 0x682e6ff3,
  0x748f82ee, 0x78a5636f, 0x84c87814, 0x8cc70208, 0x90befffa, 0xa4506ceb, 0xbef9a3f7, 0xc67178f2]
theorem K64_length : K64.length = 64 := rfl
/-- The object's cells at first. -/
def shaCells : List Value := H0.cells ++ K64.map vw ++ [.slice none 0 0, .int .i64 0, .bool true]
/-- A hash's object: the words, the numbers, what is left, how many bytes. -/
structure ShaAt (w : World) (base b : Nat) (h : St) (rv : Value) (rest : List UInt8) (n : Nat) : Prop where
  lo : base ≤ b
  lt : b < w.heap.size
  hh : w.rangeAt b 0 h.cells
  ht : w.there b 0 8
  kk : w.rangeAt b 8 (K64.map vw)
  rc : w.cell? ⟨b, 72, none⟩ = some rv
  rf : w.frozen? ⟨b, 72, none⟩ = false
  ro : OwnB w base rv rest
  rne : rv.ownBlock ≠ some b
  nc : w.cell? ⟨b, 73, none⟩ = some (.int .i64 n)
  nf : w.frozen? ⟨b, 73, none⟩ = false
  mc : w.cell? ⟨b, 74, none⟩ = some (.bool true)
end TL
end Go
namespace Go.Proofs.Ytolmejipggdodaa
open Go.RowKit Go.TL
set_option maxRecDepth 100000 in
set_option maxHeartbeats 1000000 in
theorem begin_any (w : World) : Calls Try.prog 38 #[] w fun e w' => e = .returned (.agg H0.cells.toArray) ∧ Below w.heap.size w w' := by
  go_enter Try.func38, Try.ntmps38
  go_wp2
  refine bodyPost_ret (v := .agg H0.cells.toArray) ?_ rfl ⟨rfl, (Below.refl _ _).alloc (Nat.le_refl _) _⟩
  refine results_row rfl _ _ w.heap.size 0 H0.cells _ rfl ?_ Try.underlying52 rfl (by kernel_rfl)
  exact rangeAt_new w H0.cells.toArray _ (0, 0)
set_option maxRecDepth 100000 in
set_option maxHeartbeats 1000000 in
theorem numbers_any (w : World) : Calls Try.prog 39 #[] w fun e w' => e = .returned (.agg (K64.map vw).toArray) ∧ Below w.heap.size w w' := by
  go_enter Try.func39, Try.ntmps39
  go_wp2_with (first | ((with_reducible show wpList _ _ _ (Oper.mk _ (Op.build _ _) _ _ _ _ :: _) _ _); go_must (refine wpList_built rfl _ _ rfl (.agg (K64.map vw).toArray) (by kernel_rfl) ?_)) | ((with_reducible show wpList _ _ _ (Oper.mk none (Op.store _ _ _) _ _ _ _ :: _) _ _); go_must (refine wpList_putRow rfl 51 _ _ rfl w.heap.size 0 (K64.map vw) rfl rfl (by exact there_new _ _ _ _ (by simp [K64_length])) (by kernel_rfl) (by intro v hv; obtain ⟨x, _, rfl⟩ := List.mem_map.1 hv; rfl) ?_)))
  refine bodyPost_ret (v := .agg (K64.map vw).toArray) ?_ rfl ⟨rfl, below_setCells (Nat.le_refl _) _ _ _ ((Below.refl _ _).alloc (Nat.le_refl _) _)⟩
  refine results_row rfl _ _ w.heap.size 0 (K64.map vw) _ rfl ?_ Try.underlying51 rfl (by kernel_rfl)
  exact World.rangeAt_setCells_same _ _ _ _ (there_new _ _ _ _ (by simp [K64_length]))
theorem shaCells_length : shaCells.length = 75 := rfl
set_option maxRecDepth 100000 in
set_option maxHeartbeats 1000000 in
theorem New_any (w : World) : Calls Try.prog 25 #[] w fun e w' => ∃ b, e = .returned (.pointer (some ⟨b, 0, none⟩)) ∧ ShaAt w' w.heap.size b H0 (.slice none 0 0) [] 0 ∧ Below w.heap.size w w' := by
  go_enter Try.func25, Try.ntmps25
  go_wp2_with (first | (go_at_call 38; refine (begin_any _).mono ?_; rintro e w1 ⟨rfl, hb1⟩) | (go_at_call 39; refine (numbers_any _).mono ?_; rintro e w2 ⟨rfl, hb2⟩) | ((with_reducible show wpList _ _ _ (Oper.mk _ (Op.build _ _) _ _ _ _ :: _) _ _); go_must (refine wpList_built rfl _ _ rfl (.agg shaCells.toArray) (by kernel_rfl) ?_)))
  go_ret
  refine ⟨w2.heap.size, rfl, ?_, (hb1.trans (hb2.mono hb1.size)).alloc (by have := hb1.size; have := hb2.size; omega) _⟩
  have hr := rangeAt_new w2 shaCells.toArray 73 (0, 0)
  have ht := there_new w2 shaCells.toArray 73 75 (by simp [shaCells_length])
  have hle : w.heap.size ≤ w2.heap.size := Nat.le_trans hb1.size hb2.size
  refine ⟨hle, by simp, rangeAt_take hr 8, there_mono ht (by omega), rangeAt_take (rangeAt_drop hr 8) 64, hr 72 _ rfl, (ht 72 (by omega)).2, Own_nil _ _ _, by simp [Value.ownBlock], hr 73 _ rfl, (ht 73 (by omega)).2, hr 74 _ rfl⟩
set_option maxHeartbeats 400000 in
theorem none_no (w : World) (b : Nat) (hm : w.cell? ⟨b, 74, none⟩ = some (.bool true)) : Calls Try.prog 40 #[.pointer (some ⟨b, 0, none⟩)] w fun e w' => e = .returned (.bool false) ∧ w = w' := by
  go_enter Try.func40, Try.ntmps40
  go_wp2
  go_ret
  exact ⟨rfl, rfl⟩
end Go.Proofs.Ytolmejipggdodaa
