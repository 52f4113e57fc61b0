/- The walk of state.Right. -/
import Derived.Test.YtliibpajgdncpaaStateWalks
namespace Go.Proofs.Ytliibpajgdncpaa
open Go.RowKit
set_option linter.unusedVariables false
set_option maxRecDepth 4000 in
set_option maxHeartbeats 2000000 in
theorem sright_spec (c : State.C) (w : World) :
    Calls Try.prog 14 #[.agg #[.int .i64 c.st, .bool c.f0, .bool c.f1, .int .u32 c.a0, .int .u32 c.a1, .bool c.k0, .bool c.k1]] w fun e w' => e = .returned (.bool (State.rightB c)) ∧ Below w.heap.size w w' := by
  obtain ⟨W, hW⟩ : ∃ W, W = w.alloc (.cells #[.int .i64 c.st, .bool c.f0, .bool c.f1, .int .u32 c.a0, .int .u32 c.a1, .bool c.k0, .bool c.k1] 26) := ⟨_, rfl⟩
  have hbW : Below w.heap.size w W := by rw [hW]; exact (Below.refl _ _).alloc (Nat.le_refl _) _
  have HC := Lib.hid (conn_cells w c 26 _ rfl)
  have hWc : w.alloc (.cells c.cells.toArray 26) = W := hW.symm
  obtain ⟨b0, b1, b2, b3, b4, b5, b6⟩ := HC.out
  rw [hWc] at b0 b1 b2 b3 b4 b5 b6
  have hgW : w.heap.size < W.heap.size := by rw [hW]; simp
  have hend := ended_spec c W
  have HR : Hid (State.rightB c = (State.sideB c.f0 c.a0 c.k0 && State.sideB c.f1 c.a1 c.k1 && (if c.st = 0 ∨ c.st = 1 ∨ c.st = 2 ∨ c.st = 3 then State.fins c == 0 else if c.st = 4 then State.fins c == 1 else if c.st = 5 then State.fins c == 2 && decide (State.acks c < 2) else if c.st = 6 then State.fins c == 2 && State.acks c == 2 else c.st == 7))) := Lib.hid rfl
  generalize State.fins c = N at hend HR
  generalize State.acks c = M at hend HR
  generalize State.rightB c = q at HR ⊢
  clear HC hWc
  obtain ⟨st, f0, f1, a0, a1, k0, k1⟩ := c
  simp only at b0 b1 b2 b3 b4 b5 b6 hend HR
  go_enter Try.func14, Try.ntmps14
  go_wp2_with fail
  rw [← hW]
  clear hW
  go_loop [3, 6] (fun _ i => ∃ k : Nat, k ≤ 2 ∧ i = .int .i64 k ∧ Hid ((1 ≤ k → State.sideB f0 a0 k0 = true) ∧ (2 ≤ k → State.sideB f1 a1 k1 = true))) (fun _ i => 2 - (intOf i).toNat)
  case atStart => exact ⟨0, by omega, rfl, Lib.hid ⟨fun h => by omega, fun h => by omega⟩⟩
  case round =>
    obtain ⟨k, hk, rfl, HS⟩ := hrel
    rcases (show k = 0 ∨ k = 1 ∨ k = 2 by omega) with rfl | rfl | rfl
    · cases hs : State.sideB f0 a0 k0
      · have HN : Hid (q = false) := Lib.hid (by rw [HR.out, hs]; simp)
        unfold State.sideB at hs
        cases f0
        · cases hz : (a0 == 0)
          · have nz : (a0 != 0) = true := by simpa [bne] using hz
            clear hs hz
            go_wp2
            go_ret
            exact ⟨ret_bool HN.out.symm, hbW⟩
          · have nz : (a0 != 0) = false := by simpa [bne] using hz
            cases k0
            · rw [hz] at hs; simp at hs
            · clear hs hz
              go_wp2
              go_ret
              exact ⟨ret_bool HN.out.symm, hbW⟩
        · simp at hs
      · have HS1 : Hid ((1 ≤ 1 → State.sideB f0 a0 k0 = true) ∧ (2 ≤ 1 → State.sideB f1 a1 k1 = true)) := Lib.hid ⟨fun _ => hs, fun h => by omega⟩
        unfold State.sideB at hs
        cases f0
        · cases hz : (a0 == 0)
          · rw [hz] at hs; simp at hs
          · have nz : (a0 != 0) = false := by simpa [bne] using hz
            cases k0
            · clear hs hz
              go_wp2
              go_round
              case rel => exact ⟨1, by omega, by go_num, by first | exact HS1 | exact Lib.hid ⟨fun _ => trivial, fun h => by omega⟩ | exact Lib.hid ⟨HS1.out.1, fun _ => trivial⟩⟩
              case measure => simp [intOf]
            · rw [hz] at hs; simp at hs
        · clear hs
          go_wp2
          go_round
          case rel => exact ⟨1, by omega, by go_num, by first | exact HS1 | exact Lib.hid ⟨fun _ => trivial, fun h => by omega⟩ | exact Lib.hid ⟨HS1.out.1, fun _ => trivial⟩⟩
          case measure => simp [intOf]
    · have h0 := HS.out.1 (by omega)
      cases hs : State.sideB f1 a1 k1
      · have HN : Hid (q = false) := Lib.hid (by rw [HR.out, hs]; simp)
        clear h0
        unfold State.sideB at hs
        cases f1
        · cases hz : (a1 == 0)
          · have nz : (a1 != 0) = true := by simpa [bne] using hz
            clear hs hz
            go_wp2
            go_ret
            exact ⟨ret_bool HN.out.symm, hbW⟩
          · have nz : (a1 != 0) = false := by simpa [bne] using hz
            cases k1
            · rw [hz] at hs; simp at hs
            · clear hs hz
              go_wp2
              go_ret
              exact ⟨ret_bool HN.out.symm, hbW⟩
        · simp at hs
      · have HS1 : Hid ((1 ≤ 2 → State.sideB f0 a0 k0 = true) ∧ (2 ≤ 2 → State.sideB f1 a1 k1 = true)) := Lib.hid ⟨fun _ => h0, fun _ => hs⟩
        clear h0
        unfold State.sideB at hs
        cases f1
        · cases hz : (a1 == 0)
          · rw [hz] at hs; simp at hs
          · have nz : (a1 != 0) = false := by simpa [bne] using hz
            cases k1
            · clear hs hz
              go_wp2
              go_round
              case rel => exact ⟨2, by omega, by go_num, by first | exact HS1 | exact Lib.hid ⟨fun _ => trivial, fun h => by omega⟩ | exact Lib.hid ⟨HS1.out.1, fun _ => trivial⟩⟩
              case measure => simp [intOf]
            · rw [hz] at hs; simp at hs
        · clear hs
          go_wp2
          go_round
          case rel => exact ⟨2, by omega, by go_num, by first | exact HS1 | exact Lib.hid ⟨fun _ => trivial, fun h => by omega⟩ | exact Lib.hid ⟨HS1.out.1, fun _ => trivial⟩⟩
          case measure => simp [intOf]
    · have hq := HR.out
      rw [HS.out.1 (by omega), HS.out.2 (by omega)] at hq
      simp only [Bool.and_self, Bool.true_and] at hq
      have HQ := Lib.hid hq
      clear hq
      go_wp2_with fail
      refine hend.mono ?_
      rintro e w2 ⟨rfl, hb2⟩
      have hbT := bel_then hbW hb2
      have c0 : w2.cell? ⟨w.heap.size, 0, none⟩ = some (.int .i64 st) := (hb2.cell (p := ⟨w.heap.size, 0, none⟩) hgW).trans b0
      clear hend b0 b1 b2 b3 b4 b5 b6
      by_cases s0 : st = 0
      · subst s0
        go_wp2
        go_ret
        exact ⟨ret_bool (by rw [HQ.out]; simp), hbT⟩
      by_cases s1 : st = 1
      · subst s1
        go_wp2
        go_ret
        exact ⟨ret_bool (by rw [HQ.out]; simp), hbT⟩
      by_cases s2 : st = 2
      · subst s2
        go_wp2
        go_ret
        exact ⟨ret_bool (by rw [HQ.out]; simp), hbT⟩
      by_cases s3 : st = 3
      · subst s3
        go_wp2
        go_ret
        exact ⟨ret_bool (by rw [HQ.out]; simp), hbT⟩
      by_cases s4 : st = 4
      · subst s4
        go_wp2
        go_ret
        exact ⟨ret_bool (by rw [HQ.out]; simp), hbT⟩
      by_cases s5 : st = 5
      · subst s5
        cases hn : (N == 2)
        all_goals
          go_wp2
          go_ret
          exact ⟨ret_bool (by rw [HQ.out]; simp [hn]), hbT⟩
      by_cases s6 : st = 6
      · subst s6
        cases hn : (N == 2)
        all_goals
          go_wp2
          go_ret
          exact ⟨ret_bool (by rw [HQ.out]; simp [hn]), hbT⟩
      have t0 : (st == 0) = false := by simp [s0]
      have t1 : (st == 1) = false := by simp [s1]
      have t2 : (st == 2) = false := by simp [s2]
      have t3 : (st == 3) = false := by simp [s3]
      have t4 : (st == 4) = false := by simp [s4]
      have t5 : (st == 5) = false := by simp [s5]
      have t6 : (st == 6) = false := by simp [s6]
      have hq2 : q = (st == 7) := by rw [HQ.out]; simp [s0, s1, s2, s3, s4, s5, s6]
      have HQ2 := Lib.hid hq2
      clear hq2 s0 s1 s2 s3 s4 s5 s6
      go_wp2
      go_ret
      exact ⟨ret_bool HQ2.out.symm, hbT⟩
end Go.Proofs.Ytliibpajgdncpaa
