/- Frames of statements about words of 32 and 64 bits. No conditions but those each lemma names. -/
import Derived.Test.YtjlkiopncclomaaZh
namespace Go
namespace TL
open Go.RowKit
theorem wf_u32 {a : Int} (h : (Lit.int .u32 a).wf = true) : ∃ x : UInt32, a = I32 x := by
  have hb : IntKind.u32.min ≤ a ∧ a ≤ IntKind.u32.max := by simpa [Lit.wf] using h
  have h0 : IntKind.u32.min = 0 := by decide
  have h1 : IntKind.u32.max = 4294967295 := by decide
  rw [h0, h1] at hb
  refine ⟨UInt32.ofNat a.toNat, ?_⟩
  rw [I32_eq, UInt32.toNat_ofNat']
  omega
theorem wf_u64 {a : Int} (h : (Lit.int .u64 a).wf = true) : ∃ x : UInt64, a = I64 x := by
  have hb : IntKind.u64.min ≤ a ∧ a ≤ IntKind.u64.max := by simpa [Lit.wf] using h
  have h0 : IntKind.u64.min = 0 := by decide
  have h1 : IntKind.u64.max = 18446744073709551615 := by decide
  rw [h0, h1] at hb
  refine ⟨UInt64.ofNat a.toNat, ?_⟩
  rw [I64_eq, UInt64.toNat_ofNat']
  omega
end TL
end Go
