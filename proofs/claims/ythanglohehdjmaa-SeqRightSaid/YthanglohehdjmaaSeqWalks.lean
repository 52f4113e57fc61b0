/- The walks of package seq: each function returns what its plain twin says, and leaves the world alone. -/
import Derived.Test.YthanglohehdjmaaChecked
import Derived.Test.YthanglohehdjmaaSeqPlain
import Derived.WalkKit
import Derived.WalkSpells
import Derived.WalkLawsBesides
namespace Go.Proofs.Ythanglohehdjmaa
open Go.RowKit
theorem seq_ret {a b : Value} {w : World} (h : a = b) : Ending.returned a = .returned b ∧ w = w := ⟨by rw [h], rfl⟩
set_option maxHeartbeats 400000 in
theorem seq_dist (a b : Int) (w : World) :
    Calls Try.prog 10 #[.int .u32 a, .int .u32 b] w fun e w' => e = .returned (.int .i64 (Seq.dist a b)) ∧ w = w' := by
  go_enter Try.func10, Try.ntmps10
  go_wp2
  go_ret
  exact ⟨rfl, rfl⟩
set_option maxHeartbeats 400000 in
theorem seq_step (a n : Int) (w : World) :
    Calls Try.prog 9 #[.int .u32 a, .int .i64 n] w fun e w' => e = .returned (.int .u32 (Seq.step a n)) ∧ w = w' := by
  go_enter Try.func9, Try.ntmps9
  go_wp2
  go_ret
  exact ⟨rfl, rfl⟩
set_option maxHeartbeats 400000 in
theorem seq_in (x f t : Int) (w : World) :
    Calls Try.prog 14 #[.int .u32 x, .int .u32 f, .int .u32 t] w fun e w' => e = .returned (.bool (Seq.inn x f t)) ∧ w = w' := by
  go_enter Try.func14, Try.ntmps14
  go_wp2
  go_ret
  exact ⟨rfl, rfl⟩
set_option maxHeartbeats 400000 in
theorem seq_ahead (a b : Int) (w : World) :
    Calls Try.prog 12 #[.int .u32 a, .int .u32 b] w fun e w' => e = .returned (.bool (Seq.ahead a b)) ∧ w = w' := by
  go_enter Try.func12, Try.ntmps12
  go_wp2_with (go_at_call 10; refine (seq_dist _ _ _).mono ?_; rintro e w' ⟨rfl, rfl⟩)
  go_ret
  exact ⟨rfl, rfl⟩
set_option maxHeartbeats 400000 in
theorem seq_later (a b : Int) (w : World) :
    Calls Try.prog 13 #[.int .u32 a, .int .u32 b] w fun e w' => e = .returned (.int .u32 (Seq.later a b)) ∧ w = w' := by
  cases h : Seq.ahead b a
  all_goals
    have hl : Seq.later a b = if Seq.ahead b a then b else a := rfl
    rw [hl, h]
    go_enter Try.func13, Try.ntmps13
    go_wp2_with (go_at_call 12; refine (seq_ahead _ _ _).mono ?_; rintro e w' ⟨rfl, rfl⟩)
    go_ret
    exact ⟨rfl, rfl⟩
end Go.Proofs.Ythanglohehdjmaa
