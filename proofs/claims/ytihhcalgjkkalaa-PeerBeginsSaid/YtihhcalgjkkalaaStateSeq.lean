/- The walks of seq.Dist and seq.Step in the seat of state. -/
import Derived.Test.YtihhcalgjkkalaaChecked
import Derived.Test.YtihhcalgjkkalaaSeqPlain
import Derived.Test.YtihhcalgjkkalaaOwn
namespace Go.Proofs.Ytihhcalgjkkalaa
open Go.RowKit
set_option linter.unusedVariables false
theorem seq_ret {a b : Value} {w : World} (h : a = b) : Ending.returned a = .returned b ∧ w = w := ⟨by rw [h], rfl⟩
set_option maxHeartbeats 400000 in
theorem seq_dist (a b : Int) (w : World) :
    Calls Try.prog 30 #[.int .u32 a, .int .u32 b] w fun e w' => e = .returned (.int .i64 (Seq.dist a b)) ∧ w = w' := by
  go_enter Try.func30, Try.ntmps30
  go_wp2
  go_ret
  exact ⟨rfl, rfl⟩
set_option maxHeartbeats 400000 in
theorem seq_step (a n : Int) (w : World) :
    Calls Try.prog 9 #[.int .u32 a, .int .i64 n] w fun e w' => e = .returned (.int .u32 (Seq.step a n)) ∧ w = w' := by
  go_enter Try.func9, Try.ntmps9
  go_wp2
  go_ret
  exact ⟨rfl, rfl⟩
end Go.Proofs.Ytihhcalgjkkalaa
