/- The walks of state.ended. -/
import Derived.Test.YtliibpajgdncpaaChecked
import Derived.Test.YtliibpajgdncpaaStatePlain
import Derived.Test.YtliibpajgdncpaaOwn
namespace Go.Proofs.Ytliibpajgdncpaa
open Go.RowKit
set_option linter.unusedVariables false
theorem conn_cells (w : World) (c : State.C) (t : TypeId) (g : Nat) (hg : g = w.heap.size) : (w.alloc (.cells c.cells.toArray t)).cell? ⟨g, 0, none⟩ = some (.int .i64 c.st) ∧ (w.alloc (.cells c.cells.toArray t)).cell? ⟨g, 1, none⟩ = some (.bool c.f0) ∧
    (w.alloc (.cells c.cells.toArray t)).cell? ⟨g, 2, none⟩ = some (.bool c.f1) ∧ (w.alloc (.cells c.cells.toArray t)).cell? ⟨g, 3, none⟩ = some (.int .u32 c.a0) ∧ (w.alloc (.cells c.cells.toArray t)).cell? ⟨g, 4, none⟩ = some (.int .u32 c.a1) ∧
    (w.alloc (.cells c.cells.toArray t)).cell? ⟨g, 5, none⟩ = some (.bool c.k0) ∧ (w.alloc (.cells c.cells.toArray t)).cell? ⟨g, 6, none⟩ = some (.bool c.k1) := by
  subst hg
  have h : ∀ i, (w.alloc (.cells c.cells.toArray t)).cell? ⟨w.heap.size, i, none⟩ = c.cells.toArray[i]? := fun i => cell_of_row _ _ i c.cells.toArray t (0, 0) (heap_alloc_new w _)
  exact ⟨h 0, h 1, h 2, h 3, h 4, h 5, h 6⟩
set_option maxHeartbeats 1000000 in
theorem ended_at (c : State.C) (w : World) :
    Calls Try.prog 31 #[.agg #[.int .i64 c.st, .bool c.f0, .bool c.f1, .int .u32 c.a0, .int .u32 c.a1, .bool c.k0, .bool c.k1]] w fun e w' => e = .returned (.tuple #[.int .i64 (State.fins c), .int .i64 (State.acks c)]) ∧ w.alloc (.cells #[.int .i64 c.st, .bool c.f0, .bool c.f1, .int .u32 c.a0, .int .u32 c.a1, .bool c.k0, .bool c.k1] 26) = w' := by
  obtain ⟨W, hW⟩ : ∃ W, W = w.alloc (.cells #[.int .i64 c.st, .bool c.f0, .bool c.f1, .int .u32 c.a0, .int .u32 c.a1, .bool c.k0, .bool c.k1] 26) := ⟨_, rfl⟩
  have HW := Lib.hid hW
  have HC := Lib.hid (conn_cells w c 26 _ rfl)
  have hWc : w.alloc (.cells c.cells.toArray 26) = W := hW.symm
  obtain ⟨b0, b1, b2, b3, b4, b5, b6⟩ := HC.out
  rw [hWc] at b0 b1 b2 b3 b4 b5 b6
  clear HC hWc
  go_enter Try.func31, Try.ntmps31
  go_wp2_with fail
  rw [← hW]
  clear hW
  go_loop [4, 5, 6, 7] (fun n m _ i => ∃ k : Nat, k ≤ 2 ∧ i = .int .i64 k ∧ n = .int .i64 (State.cnt c.f0 c.f1 k) ∧ m = .int .i64 (State.cnt c.k0 c.k1 k)) (fun _ _ _ i => 2 - (intOf i).toNat)
  case atStart => exact ⟨0, by omega, rfl, rfl, rfl⟩
  case round =>
    obtain ⟨k, hk, rfl, rfl, rfl⟩ := hrel
    rcases (show k = 0 ∨ k = 1 ∨ k = 2 by omega) with rfl | rfl | rfl
    · generalize c.f0 = x at *
      generalize c.k0 = y at *
      cases x <;> cases y
      all_goals
        simp only [State.cnt]
        go_wp2
        go_round
        case rel => exact ⟨1, by omega, by go_num, rfl, rfl⟩
        case measure => simp [intOf]
    · generalize c.f0 = x0 at *
      generalize c.k0 = y0 at *
      generalize c.f1 = x at *
      generalize c.k1 = y at *
      cases x <;> cases y <;> cases x0 <;> cases y0
      all_goals
        simp only [State.cnt, State.bi]
        go_wp2
        go_round
        case rel => exact ⟨2, by omega, by go_num, rfl, rfl⟩
        case measure => simp [intOf]
    · go_wp2
      go_ret2
      exact ⟨rfl, HW.out.symm⟩
theorem ended_spec (c : State.C) (w : World) :
    Calls Try.prog 31 #[.agg #[.int .i64 c.st, .bool c.f0, .bool c.f1, .int .u32 c.a0, .int .u32 c.a1, .bool c.k0, .bool c.k1]] w fun e w' => e = .returned (.tuple #[.int .i64 (State.fins c), .int .i64 (State.acks c)]) ∧ Below w.heap.size w w' :=
  (ended_at c w).mono fun _ _ ⟨h, h'⟩ => ⟨h, h' ▸ (Below.refl _ _).alloc (Nat.le_refl _) _⟩
end Go.Proofs.Ytliibpajgdncpaa
