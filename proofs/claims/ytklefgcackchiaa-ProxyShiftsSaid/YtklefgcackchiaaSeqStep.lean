/- The walk of seq.Step alone (a seat that has no seq.Dist). -/
import Derived.Test.YtklefgcackchiaaChecked
import Derived.Test.YtklefgcackchiaaSeqPlain
import Derived.Test.YtklefgcackchiaaOwn
namespace Go.Proofs.Ytklefgcackchiaa
open Go.RowKit
set_option linter.unusedVariables false
theorem seq_ret {a b : Value} {w : World} (h : a = b) : Ending.returned a = .returned b ∧ w = w := ⟨by rw [h], rfl⟩
set_option maxHeartbeats 400000 in
theorem seq_step (a n : Int) (w : World) :
    Calls Try.prog 11 #[.int .u32 a, .int .i64 n] w fun e w' => e = .returned (.int .u32 (Seq.step a n)) ∧ w = w' := by
  go_enter Try.func11, Try.ntmps11
  go_wp2
  go_ret
  exact ⟨rfl, rfl⟩
end Go.Proofs.Ytklefgcackchiaa
