/- The walk of state.Lasts. -/
import Derived.Test.YtliibpajgdncpaaStateStep
import Derived.Test.YtliibpajgdncpaaChecked
import Derived.Test.YtliibpajgdncpaaOwn
namespace Go.Proofs.Ytliibpajgdncpaa
open Go.RowKit
set_option linter.unusedVariables false
set_option maxHeartbeats 1000000 in
theorem lasts_spec (st tcp : Int) (w : World) (h0 : -9223372036854775808 ≤ tcp) (h1 : tcp ≤ 9223372036854775807) :
    Calls Try.prog 16 #[.int .i64 st, .int .i64 tcp] w fun e w' => e = .returned (.int .i64 (State.lasts st tcp)) ∧ w = w' := by
  obtain ⟨t, ht⟩ : ∃ t, (if tcp < 1 then (1 : Int) else tcp) = t := ⟨_, rfl⟩
  have ht0 : 1 ≤ t ∧ t ≤ 9223372036854775807 := by rw [← ht]; split <;> omega
  have hl : State.lasts st tcp = if st = 3 then t else if st = 0 ∨ st = 7 then 1 else if st = 1 ∨ st = 2 ∨ st = 4 ∨ st = 5 ∨ st = 6 then t / 8 + 1 else 0 := by unfold State.lasts; rw [ht]
  have HL := Lib.hid hl
  clear hl
  go_enter Try.func16, Try.ntmps16
  go_wp2
  all_goals
    go_ret
    refine ⟨ret_int ?_, rfl⟩
    rw [HL.out]
    clear HL
    simp_all
end Go.Proofs.Ytliibpajgdncpaa
