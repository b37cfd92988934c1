/- Plain: the example of layer 6's laws, computed: the tag about another thing is another one. No program in this text. No conditions. -/
import Derived.Test.YtidadhbaomieiaaZd
namespace Go
namespace TL
theorem ring_far : (tagL (ringK [109] 0) 0 7 0 [97] (sealL (ringK [109] 0) 7 0 [120]) == tagL (ringK [109] 0) 0 7 0 [98] (sealL (ringK [109] 0) 7 0 [120])) = false := by decide +kernel
theorem envB_head0 (b : UInt32) (n : UInt64) (d t : List UInt8) : (envB ⟨0, b, n, d, t⟩).head? = some 0 := by
  unfold envB
  rw [show numL 0 = [0] from numL_small (by omega)]; rfl
theorem envB_head1 (b : UInt32) (n : UInt64) (d t : List UInt8) : (envB ⟨1, b, n, d, t⟩).head? = some 1 := by
  unfold envB
  rw [show numL 1 = [1] from numL_small (by omega)]; rfl
theorem ring_unlike (m a t a' t' : List UInt8) (b b' : UInt32) (n n' : UInt64) : envB (RingS.env ⟨m, 0, b, n⟩ a t) ≠ envB (RingS.env ⟨m, 1, b', n'⟩ a' t') := fun h => by
  have h0 := envB_head0 b n (sealL (ringK m 0) b n t) (tagL (ringK m 0) 0 b n a (sealL (ringK m 0) b n t))
  have h1 := envB_head1 b' n' (sealL (ringK m 1) b' n' t') (tagL (ringK m 1) 1 b' n' a' (sealL (ringK m 1) b' n' t'))
  unfold RingS.env at h
  rw [h, h1] at h0
  exact absurd h0 (by decide)
theorem ring_mac : openL [109] 0 (envB (RingS.env ⟨[109], 0, 7, 0⟩ [97] [120])) [98] = ([], 13) := by
  have hr := RingS.read (R := ⟨[109], 0, 7, 0⟩) [97] [120] (by decide) (by decide)
  refine openL_mac (by rw [hr]) (by rw [hr]; exact Nat.lt_irrefl 0) ?_
  rw [hr]
  intro h
  have e := ring_far
  unfold RingS.env at h
  simp only at h
  rw [h] at e
  simp at e
end TL
end Go
