/- The walks of the references of rules. -/
import Derived.Test.YtdocojhjknhjnaaRulesPairs
import Derived.Deep.RegionHeld3
namespace Go.Proofs.Ytdocojhjknhjnaa
open Go.RowKit
set_option linter.unusedVariables false
theorem Net.half (a : Int) (k : Nat) : a / 2 ^ k / 2 = a / 2 ^ (k + 1) := by
  rw [Int.pow_succ, Int.ediv_ediv_of_nonneg (by exact Int.le_of_lt (Int.pow_pos (by decide)))]
set_option maxHeartbeats 1000000 in
theorem rin_spec (a n b : Int) (w : World) (a0 : 0 ≤ a) (a1 : a ≤ 4294967295) (n0 : 0 ≤ n) (n1 : n ≤ 4294967295) :
    Calls Try.prog 27 #[.int .u32 a, .int .u32 n, .int .i64 b] w fun e w' => e = .returned (.bool (Net.inB a n b)) ∧ w = w' := by
  by_cases h0 : 0 ≤ b
  · by_cases h1 : b ≤ 32
    · obtain ⟨k, rfl⟩ := Int.eq_ofNat_of_zero_le h0
      obtain ⟨m, hm⟩ : ∃ m : Nat, (m : Int) = 32 - (k : Int) := ⟨32 - k, by omega⟩
      have hin : Net.inB a n k = decide (a / 2 ^ m = n / 2 ^ m) := by
        unfold Net.inB
        rw [show 32 - (k : Int).toNat = m by omega]
        simp [h1]
      have HIN := Lib.hid hin
      clear hin
      have hk1 : ¬ (k : Int) < 0 := by omega
      have hk2 : ¬ (32 : Int) < (k : Int) := by omega
      go_enter Try.func27, Try.ntmps27
      go_wp2
      go_loop [0, 1, 7] (fun x y i => ∃ (j : Nat) (p q : Int), j ≤ m ∧ i = .int .i64 j ∧ x = .int .u32 p ∧ y = .int .u32 q ∧ 0 ≤ p ∧ p ≤ 4294967295 ∧ 0 ≤ q ∧ q ≤ 4294967295 ∧ Hid (p = a / 2 ^ j ∧ q = n / 2 ^ j)) (fun _ _ i => m - (intOf i).toNat)
      case atStart => exact ⟨0, a, n, by omega, rfl, rfl, rfl, a0, a1, n0, n1, Lib.hid (by simp)⟩
      case round =>
        obtain ⟨j, p, q, hj, rfl, rfl, rfl, p0, p1, q0, q1, HP⟩ := hrel
        by_cases hlt : j < m
        · have hl1 : (j : Int) < 32 - (k : Int) := by omega
          go_wp2
          go_round
          case rel =>
            refine ⟨j + 1, p / 2, q / 2, by omega, by go_num, by go_num, by go_num, by omega, by omega, by omega, by omega, Lib.hid ?_⟩
            rw [HP.out.1, HP.out.2]
            exact ⟨Net.half _ _, Net.half _ _⟩
          case measure => simp [intOf]; omega
        · have hl1 : ¬ (j : Int) < 32 - (k : Int) := by omega
          have : j = m := by omega
          subst this
          go_wp2
          go_ret
          refine ⟨ret_bool ?_, rfl⟩
          rw [HIN.out, ← HP.out.1, ← HP.out.2]
          simp [Bool.beq_eq_decide_eq]
    · have h2 : Net.inB a n b = false := by unfold Net.inB; simp; omega
      rw [h2]
      go_enter Try.func27, Try.ntmps27
      go_wp2
      go_ret
      exact ⟨ret_bool (by simp), rfl⟩
  · have h2 : Net.inB a n b = false := by unfold Net.inB; simp; omega
    rw [h2]
    go_enter Try.func27, Try.ntmps27
    go_wp2
    go_ret
    exact ⟨ret_bool (by simp), rfl⟩
end Go.Proofs.Ytdocojhjknhjnaa
