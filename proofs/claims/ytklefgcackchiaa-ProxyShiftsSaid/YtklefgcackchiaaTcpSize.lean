/- The walk of tcp.Size. -/
import Derived.Test.YtklefgcackchiaaStateStep
import Derived.Test.YtklefgcackchiaaChecked
import Derived.Test.YtklefgcackchiaaOwn
namespace Go.Proofs.Ytklefgcackchiaa
open Go.RowKit
set_option linter.unusedVariables false
def State.part (n : Nat) (fl : Int) (k : Nat) : Int := if k = 0 then (n : Int) else if k = 1 then (n : Int) + State.bi (State.has fl 2) else State.size n fl
set_option maxHeartbeats 1000000 in
theorem size_at (sp dp sq ak fl wi ur : Int) (Ao : Option Addr) (no co : Nat) (Ab : Option Addr) (nb cb : Nat) (w : World) (hn : nb ≤ 4294967295) :
    Calls Try.prog 10 #[.agg #[.int .i64 sp, .int .i64 dp, .int .u32 sq, .int .u32 ak, .int .i64 fl, .int .i64 wi, .int .i64 ur, .slice Ao no co, .slice Ab nb cb]] w fun e w' => e = .returned (.int .i64 (State.size nb fl)) ∧ (w.alloc (.cells #[.int .i64 sp, .int .i64 dp, .int .u32 sq, .int .u32 ak, .int .i64 fl, .int .i64 wi, .int .i64 ur, .slice Ao no co, .slice Ab nb cb] 26)).alloc (.cells #[.int .i64 2, .int .i64 1] 3) = w' := by
  obtain ⟨W, hW⟩ : ∃ W, W = (w.alloc (.cells #[.int .i64 sp, .int .i64 dp, .int .u32 sq, .int .u32 ak, .int .i64 fl, .int .i64 wi, .int .i64 ur, .slice Ao no co, .slice Ab nb cb] 26)).alloc (.cells #[.int .i64 2, .int .i64 1] 3) := ⟨_, rfl⟩
  have HW := Lib.hid hW
  have c4 : W.cell? ⟨w.heap.size, 4, none⟩ = some (.int .i64 fl) := by
    rw [hW]
    have h1 : (w.alloc (.cells #[.int .i64 sp, .int .i64 dp, .int .u32 sq, .int .u32 ak, .int .i64 fl, .int .i64 wi, .int .i64 ur, .slice Ao no co, .slice Ab nb cb] 26)).cell? ⟨w.heap.size, 4, none⟩ = some (.int .i64 fl) := cell_of_row _ _ 4 _ _ (0, 0) (heap_alloc_new w _)
    exact (((Below.refl _ (w.alloc (.cells #[.int .i64 sp, .int .i64 dp, .int .u32 sq, .int .u32 ak, .int .i64 fl, .int .i64 wi, .int .i64 ur, .slice Ao no co, .slice Ab nb cb] 26))).alloc (Nat.le_refl _) (.cells #[.int .i64 2, .int .i64 1] 3)).cell (p := ⟨w.heap.size, 4, none⟩) (by simp)).trans h1
  have hl : ∀ i, W.cell? ⟨w.heap.size + 1, i, none⟩ = #[Value.int .i64 2, Value.int .i64 1][i]? := by
    intro i
    rw [hW]
    have := cell_of_row _ _ i _ _ (0, 0) (heap_alloc_new (w.alloc (.cells #[.int .i64 sp, .int .i64 dp, .int .u32 sq, .int .u32 ak, .int .i64 fl, .int .i64 wi, .int .i64 ur, .slice Ao no co, .slice Ab nb cb] 26)) (.cells #[.int .i64 2, .int .i64 1] 3))
    rw [show (w.alloc (.cells #[.int .i64 sp, .int .i64 dp, .int .u32 sq, .int .u32 ak, .int .i64 fl, .int .i64 wi, .int .i64 ur, .slice Ao no co, .slice Ab nb cb] 26)).heap.size = w.heap.size + 1 by simp] at this
    exact this
  have l0 : W.cell? ⟨w.heap.size + 1, 0, none⟩ = some (.int .i64 2) := hl 0
  have l1 : W.cell? ⟨w.heap.size + 1, 1, none⟩ = some (.int .i64 1) := hl 1
  clear hl
  go_enter Try.func10, Try.ntmps10
  go_wp2_with fail
  rw [← hW]
  clear hW
  go_loop [3, 5, 11] (fun n _ i => ∃ k : Nat, k ≤ 2 ∧ i = .int .i64 k ∧ n = .int .i64 (State.part nb fl k)) (fun _ _ i => 2 - (intOf i).toNat)
  case atStart => exact ⟨0, by omega, rfl, rfl⟩
  case round =>
    obtain ⟨k, hk, rfl, rfl⟩ := hrel
    rcases (show k = 0 ∨ k = 1 ∨ k = 2 by omega) with rfl | rfl | rfl
    · have e0 : State.part nb fl 0 = (nb : Int) := rfl
      have e1 : State.part nb fl 1 = (nb : Int) + State.bi (State.has fl 2) := rfl
      rw [e0]
      cases hb : State.has fl 2
      all_goals
        rw [hb] at e1
        unfold State.has at hb
        have E1 := Lib.hid e1
        clear e0 e1
        go_wp2
        go_round
        case rel => exact ⟨1, by omega, by go_num, by rw [E1.out]; simp [State.bi]⟩
        case measure => simp [intOf]
    · have e0 : State.part nb fl 1 = (nb : Int) + State.bi (State.has fl 2) := rfl
      have e1 : State.part nb fl 2 = (nb : Int) + State.bi (State.has fl 2) + State.bi (State.has fl 1) := rfl
      have hbd : 0 ≤ State.bi (State.has fl 2) ∧ State.bi (State.has fl 2) ≤ 1 := by unfold State.bi; split <;> omega
      rw [e0]
      generalize State.bi (State.has fl 2) = v at e1 hbd
      cases hb : State.has fl 1
      all_goals
        rw [hb] at e1
        unfold State.has at hb
        have E1 := Lib.hid e1
        clear e0 e1
        go_wp2
        go_round
        case rel => exact ⟨2, by omega, by go_num, by rw [E1.out]; simp [State.bi]⟩
        case measure => simp [intOf]
    · go_wp2
      go_ret
      exact ⟨rfl, HW.out.symm⟩
theorem size_spec (sp dp sq ak fl wi ur : Int) (Ao : Option Addr) (no co : Nat) (Ab : Option Addr) (nb cb : Nat) (w : World) (hn : nb ≤ 4294967295) :
    Calls Try.prog 10 #[.agg #[.int .i64 sp, .int .i64 dp, .int .u32 sq, .int .u32 ak, .int .i64 fl, .int .i64 wi, .int .i64 ur, .slice Ao no co, .slice Ab nb cb]] w fun e w' => e = .returned (.int .i64 (State.size nb fl)) ∧ Below w.heap.size w w' :=
  (size_at sp dp sq ak fl wi ur Ao no co Ab nb cb w hn).mono fun _ _ ⟨h, h'⟩ => ⟨h, h' ▸ ((Below.refl _ _).alloc (Nat.le_refl _) _).alloc (by simp) _⟩
end Go.Proofs.Ytklefgcackchiaa
