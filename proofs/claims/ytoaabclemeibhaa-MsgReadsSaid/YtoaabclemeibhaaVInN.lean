/- Plain laws of the reference's reader, and of counting in 64 bits. No conditions but those each lemma names. -/
import Derived.Test.YtoaabclemeibhaaZc
namespace Go
namespace TL
theorem I64_succ (k : Nat) (h : k < 9223372036854775808) : I64 (w64 (k : Int) + 1) = ((k + 1 : Nat) : Int) := by
  have e : w64 (k : Int) + 1 = w64 ((k + 1 : Nat) : Int) := by
    rw [w64_nat, w64_nat]
    apply UInt64.toNat_inj.1
    simp
  rw [e, I64_nat _ (by omega)]
theorem RS.text_len (x : RS) (m : Nat) : (x.text m).2.rest.length ≤ x.rest.length := by
  have := RS.num_len x m
  unfold RS.text
  split
  · split
    · simp; omega
    · simpa using this
  · exact this
end TL
end Go
