/- The walk of state.said. -/
import Derived.Test.YtliibpajgdncpaaStateWord
import Derived.Deep.RegionHeld3
import Derived.Shelf.Abstract
namespace Go.Proofs.Ytliibpajgdncpaa
open Go.RowKit
set_option linter.unusedVariables false
set_option maxHeartbeats 2000000 in
theorem said_spec (sd sp dp sq ak fl wi ur : Int) (Ao : Option Addr) (no co : Nat) (Ab : Option Addr) (nb cb : Nat) (w : World) :
    Calls Try.prog 24 #[.int .i64 sd, .agg #[.int .i64 sp, .int .i64 dp, .int .u32 sq, .int .u32 ak, .int .i64 fl, .int .i64 wi, .int .i64 ur, .slice Ao no co, .slice Ab nb cb]] w fun e w' => e = .returned (.agg #[.int .i64 sp, .int .i64 dp, .int .u32 sq, .int .u32 ak, .int .i64 fl, .int .i64 wi, .int .i64 ur, .slice Ao no co, .slice Ab nb cb, .int .i64 sd, .bool (State.has fl 2), .bool (State.has fl 16), .bool (State.has fl 1), .bool (State.has fl 4)]) ∧ Below w.heap.size w w' := by
  go_enter Try.func24, Try.ntmps24
  go_wp2_with fail
  go_region_held3 (fun w' => w'.cell? ⟨w.heap.size, 0, none⟩ = some (.int .i64 sp) ∧ w'.cell? ⟨w.heap.size, 1, none⟩ = some (.int .i64 dp) ∧ w'.cell? ⟨w.heap.size, 2, none⟩ = some (.int .u32 sq) ∧ w'.cell? ⟨w.heap.size, 3, none⟩ = some (.int .u32 ak) ∧ w'.cell? ⟨w.heap.size, 4, none⟩ = some (.int .i64 fl) ∧ w'.cell? ⟨w.heap.size, 5, none⟩ = some (.int .i64 wi) ∧ w'.cell? ⟨w.heap.size, 6, none⟩ = some (.int .i64 ur) ∧ w'.cell? ⟨w.heap.size, 7, none⟩ = some (.slice Ao no co) ∧ w'.cell? ⟨w.heap.size, 8, none⟩ = some (.slice Ab nb cb)) (go_keep)
    ((go_at_call 39; refine (saidHas_spec _ fl w.heap.size _ (by first | assumption | go_simp)).mono ?_; rintro e w' ⟨rfl, rfl⟩))
  all_goals
    go_wp2
    have hb : Below w.heap.size w ((w.alloc (.cells #[.int .i64 sp, .int .i64 dp, .int .u32 sq, .int .u32 ak, .int .i64 fl, .int .i64 wi, .int .i64 ur, .slice Ao no co, .slice Ab nb cb] 30)).alloc (.cells #[.int .i64 sp, .int .i64 dp, .int .u32 sq, .int .u32 ak, .int .i64 fl, .int .i64 wi, .int .i64 ur, .slice Ao no co, .slice Ab nb cb, .int .i64 sd, .bool (State.has fl 2), .bool (State.has fl 16), .bool (State.has fl 1), .bool (State.has fl 4)] 60)) := ((Below.refl _ _).alloc (Nat.le_refl _) _).alloc (by simp) _
    refine bodyPost_ret (v := .agg #[.int .i64 sp, .int .i64 dp, .int .u32 sq, .int .u32 ak, .int .i64 fl, .int .i64 wi, .int .i64 ur, .slice Ao no co, .slice Ab nb cb, .int .i64 sd, .bool (State.has fl 2), .bool (State.has fl 16), .bool (State.has fl 1), .bool (State.has fl 4)]) (by simp [results, Try.results24, go_sem]) rfl ⟨rfl, ?_⟩
    exact ⟨hb.os, hb.tape, hb.output, hb.size, hb.block⟩
end Go.Proofs.Ytliibpajgdncpaa
