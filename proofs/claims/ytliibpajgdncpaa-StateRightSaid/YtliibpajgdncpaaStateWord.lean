/- The walks of word.begins and of said's closure. -/
import Derived.Test.YtliibpajgdncpaaTcpSize
namespace Go.Proofs.Ytliibpajgdncpaa
open Go.RowKit
set_option linter.unusedVariables false
set_option maxHeartbeats 1000000 in
theorem begins_at (sp dp sq ak fl wi ur : Int) (Ao : Option Addr) (no co : Nat) (Ab : Option Addr) (nb cb : Nat) (sd : Int) (sy ac fi rs : Bool) (w : World) :
    Calls Try.prog 25 #[.agg #[.int .i64 sp, .int .i64 dp, .int .u32 sq, .int .u32 ak, .int .i64 fl, .int .i64 wi, .int .i64 ur, .slice Ao no co, .slice Ab nb cb, .int .i64 sd, .bool sy, .bool ac, .bool fi, .bool rs]] w fun e w' => e = .returned (.bool (sd == 0 && sy && !ac && !fi)) ∧ w.alloc (.cells #[.int .i64 sp, .int .i64 dp, .int .u32 sq, .int .u32 ak, .int .i64 fl, .int .i64 wi, .int .i64 ur, .slice Ao no co, .slice Ab nb cb, .int .i64 sd, .bool sy, .bool ac, .bool fi, .bool rs] 60) = w' := by
  cases h0 : (sd == 0) <;> cases sy <;> cases ac <;> cases fi
  all_goals
    go_enter Try.func25, Try.ntmps25
    go_wp2
    go_ret
    exact ⟨ret_bool (by simp), rfl⟩
/-- said's closure: is a flag there? -/
theorem saidHas_spec (f fl : Int) (g : Nat) (w : World) (hg : w.cell? ⟨g, 4, none⟩ = some (.int .i64 fl)) :
    Calls Try.prog 39 #[.int .i64 f, .pointer (some ⟨g, 0, none⟩)] w fun e w' => e = .returned (.bool (State.has fl f)) ∧ w = w' := by
  unfold State.has
  go_enter Try.func39, Try.ntmps39
  go_wp2
  go_ret
  exact ⟨rfl, rfl⟩
end Go.Proofs.Ytliibpajgdncpaa
