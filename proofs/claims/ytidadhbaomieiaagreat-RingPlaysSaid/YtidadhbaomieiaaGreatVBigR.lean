/- The reference's rotation of a word. Conditions: the rotation's number. -/
import Derived.Test.YtidadhbaomieiaaGreatZa
namespace Go.Proofs.YtidadhbaomieiaaGreat
open Go.RowKit Go.TL
set_option maxHeartbeats 400000 in
theorem refrot_any (x : UInt32) (m : Nat) (w : World) (hm : 1 ≤ m) (hm2 : m ≤ 31) :
    Calls Tryz.prog 163 #[.int .u32 (I32 x), .int .u64 m] w fun e w' => e = .returned (.int .u32 (I32 (ror x m))) ∧ w = w' := by
  have h2 := sub32 m hm hm2
  have h3 : (m : Int) ≤ 31 := by omega
  have h4 : ((32 - m : Nat) : Int) ≤ 31 := by omega
  go_enter Tryz.func163, Tryz.ntmps163
  go_wp2
  go_ret
  exact ⟨rfl, rfl⟩
end Go.Proofs.YtidadhbaomieiaaGreat
