/- The laws over package seq: each walk returns true. -/
import Derived.Test.YthanglohehdjmaaSeqWalks
import Derived.OpenShut
import Derived.Lib.Hide
namespace Go.Proofs.Ythanglohehdjmaa
open Go.RowKit
set_option linter.unusedVariables false
theorem ret_int {k : IntKind} {a b : Int} (h : a = b) : Ending.returned (.int k a) = .returned (.int k b) := by rw [h]
theorem ret_bool {a b : Bool} (h : a = b) : Ending.returned (.bool a) = .returned (.bool b) := by rw [h]
/-! the reference -/
theorem Seq.tmod_facts (n : Int) : -4294967296 < n.tmod 4294967296 ∧ n.tmod 4294967296 < 4294967296 ∧ (n.tmod 4294967296 - n) % 4294967296 = 0 := by
  rcases Int.le_total 0 n with h | h
  · rw [Int.tmod_eq_emod_of_nonneg h]; omega
  · obtain ⟨m, rfl⟩ : ∃ m, n = -m := ⟨-n, by omega⟩
    rw [Int.neg_tmod, Int.tmod_eq_emod_of_nonneg (by omega)]; omega
set_option maxHeartbeats 400000 in
theorem ref_dist (a b : Int) (w : World) (ha : 0 ≤ a ∧ a ≤ 4294967295) (hb : 0 ≤ b ∧ b ≤ 4294967295) :
    Calls Try.prog 11 #[.int .u32 a, .int .u32 b] w fun e w' => e = .returned (.int .i64 (Seq.dist a b)) ∧ w = w' := by
  obtain ⟨ha0, ha1⟩ := ha
  obtain ⟨hb0, hb1⟩ := hb
  go_enter Try.func11, Try.ntmps11
  go_wp2
  all_goals
    go_ret
    exact ⟨ret_int (by unfold Seq.dist wrap64 wrap32; omega), rfl⟩
set_option maxHeartbeats 400000 in
theorem ref_in (x a b : Int) (w : World) (hx : 0 ≤ x ∧ x ≤ 4294967295) (ha : 0 ≤ a ∧ a ≤ 4294967295) (hb : 0 ≤ b ∧ b ≤ 4294967295) :
    Calls Try.prog 15 #[.int .u32 x, .int .u32 a, .int .u32 b] w fun e w' => e = .returned (.bool (Seq.inn x a b)) ∧ w = w' := by
  obtain ⟨ha0, ha1⟩ := ha
  obtain ⟨hb0, hb1⟩ := hb
  obtain ⟨hx0, hx1⟩ := hx
  go_enter Try.func15, Try.ntmps15
  go_wp2
  all_goals
    go_ret
    exact ⟨ret_bool (by unfold Seq.inn; rw [Bool.eq_iff_iff]; simp; try omega), rfl⟩
set_option maxHeartbeats 400000 in
theorem ref_step (a n : Int) (w : World) (ha : 0 ≤ a ∧ a ≤ 4294967295) (hn : -9223372036854775808 ≤ n ∧ n ≤ 9223372036854775807) :
    Calls Try.prog 16 #[.int .u32 a, .int .i64 n] w fun e w' => e = .returned (.int .u32 (Seq.step a n)) ∧ w = w' := by
  obtain ⟨ha0, ha1⟩ := ha
  obtain ⟨hn0, hn1⟩ := hn
  obtain ⟨t0, t1, t2⟩ := Seq.tmod_facts n
  obtain ⟨u0, u1, u2⟩ := Seq.tmod_facts (a + n.tmod 4294967296)
  have T2 := Lib.hid t2
  have U2 := Lib.hid u2
  clear t2 u2
  go_enter Try.func16, Try.ntmps16
  go_wp2
  all_goals
    have t2 := T2.out
    have u2 := U2.out
    go_ret
    exact ⟨ret_int (by unfold Seq.step; omega), rfl⟩
set_option maxHeartbeats 400000 in
theorem seq_awake (w : World) :
    Calls Try.prog 8 #[] w fun e w' => e = .returned (.bool true) ∧ w = w' := by
  have h1 : (Seq.dist 4294967295 1 == 2) = true := by kernel_rfl
  have h2 : Seq.inn 5 4294967294 10 = true := by decide
  have h3 : Seq.inn 11 4294967294 10 = false := by decide
  have h4 : Seq.ahead 1 4294967295 = true := by kernel_rfl
  have h5 : (Seq.step 4294967295 2 == 1) = true := by decide
  go_enter Try.func8, Try.ntmps8
  go_wp2_with (first | (go_at_call 8; refine (seq_awake _).mono ?_; rintro e w' ⟨rfl, rfl⟩) | (go_at_call 10; refine (seq_dist _ _ _).mono ?_; rintro e w' ⟨rfl, rfl⟩) | (go_at_call 14; refine (seq_in _ _ _ _).mono ?_; rintro e w' ⟨rfl, rfl⟩) | (go_at_call 12; refine (seq_ahead _ _ _).mono ?_; rintro e w' ⟨rfl, rfl⟩) | (go_at_call 9; refine (seq_step _ _ _).mono ?_; rintro e w' ⟨rfl, rfl⟩) | (go_at_call 13; refine (seq_later _ _ _).mono ?_; rintro e w' ⟨rfl, rfl⟩))
  go_ret
  exact ⟨rfl, rfl⟩
set_option maxHeartbeats 400000 in
theorem seq_back (a b n : Int) (ha : 0 ≤ a ∧ a ≤ 4294967295) (hb : 0 ≤ b ∧ b ≤ 4294967295) (w : World) :
    Calls Try.prog 3 #[.int .u32 a, .int .u32 b, .int .i64 n] w fun e w' => e = .returned (.bool true) ∧ w = w' := by
  have h1 : (Seq.step a (Seq.dist a b) == b) = true := by rw [beq_iff_eq]; unfold Seq.step Seq.dist wrap64 wrap32; omega
  have h2 : (Seq.step (Seq.step a n) (wrap64 (-n)) == a) = true := by rw [beq_iff_eq]; unfold Seq.step wrap64; omega
  have h3 : ((Seq.dist a b == 0) == (a == b)) = true := by
    rw [beq_iff_eq, Bool.eq_iff_iff, beq_iff_eq, beq_iff_eq]; unfold Seq.dist wrap64 wrap32; omega
  clear ha hb
  go_enter Try.func3, Try.ntmps3
  go_wp2_with (first | (go_at_call 8; refine (seq_awake _).mono ?_; rintro e w' ⟨rfl, rfl⟩) | (go_at_call 10; refine (seq_dist _ _ _).mono ?_; rintro e w' ⟨rfl, rfl⟩) | (go_at_call 14; refine (seq_in _ _ _ _).mono ?_; rintro e w' ⟨rfl, rfl⟩) | (go_at_call 12; refine (seq_ahead _ _ _).mono ?_; rintro e w' ⟨rfl, rfl⟩) | (go_at_call 9; refine (seq_step _ _ _).mono ?_; rintro e w' ⟨rfl, rfl⟩) | (go_at_call 13; refine (seq_later _ _ _).mono ?_; rintro e w' ⟨rfl, rfl⟩))
  go_ret
  exact ⟨rfl, rfl⟩
set_option maxHeartbeats 400000 in
theorem seq_right (a b c n : Int) (ha : 0 ≤ a ∧ a ≤ 4294967295) (hb : 0 ≤ b ∧ b ≤ 4294967295) (hc : 0 ≤ c ∧ c ≤ 4294967295) (hn : -9223372036854775808 ≤ n ∧ n ≤ 9223372036854775807) (w : World) :
    Calls Try.prog 4 #[.int .u32 a, .int .u32 b, .int .u32 c, .int .i64 n] w fun e w' => e = .returned (.bool true) ∧ w = w' := by
  obtain ⟨ha0, ha1⟩ := ha
  obtain ⟨hb0, hb1⟩ := hb
  obtain ⟨hc0, hc1⟩ := hc
  obtain ⟨hn0, hn1⟩ := hn
  have h2 : (Seq.ahead a b == decide (0 < Seq.dist b a)) = true := by simp [Seq.ahead]
  by_cases h : 0 < Seq.dist a b
  · have h5 : (Seq.later a b == b) = true := by simp [Seq.later, Seq.ahead, h]
    go_enter Try.func4, Try.ntmps4
    go_wp2_with (first | (go_at_call 11; refine (ref_dist _ _ _ (by omega) (by omega)).mono ?_; rintro e w' ⟨rfl, rfl⟩) | (go_at_call 15; refine (ref_in _ _ _ _ (by omega) (by omega) (by omega)).mono ?_; rintro e w' ⟨rfl, rfl⟩) | (go_at_call 16; refine (ref_step _ _ _ (by omega) (by omega)).mono ?_; rintro e w' ⟨rfl, rfl⟩) | (first | (go_at_call 8; refine (seq_awake _).mono ?_; rintro e w' ⟨rfl, rfl⟩) | (go_at_call 10; refine (seq_dist _ _ _).mono ?_; rintro e w' ⟨rfl, rfl⟩) | (go_at_call 14; refine (seq_in _ _ _ _).mono ?_; rintro e w' ⟨rfl, rfl⟩) | (go_at_call 12; refine (seq_ahead _ _ _).mono ?_; rintro e w' ⟨rfl, rfl⟩) | (go_at_call 9; refine (seq_step _ _ _).mono ?_; rintro e w' ⟨rfl, rfl⟩) | (go_at_call 13; refine (seq_later _ _ _).mono ?_; rintro e w' ⟨rfl, rfl⟩)))
    go_ret
    exact ⟨rfl, rfl⟩
  · have h5 : (Seq.later a b == a) = true := by simp [Seq.later, Seq.ahead, h]
    go_enter Try.func4, Try.ntmps4
    go_wp2_with (first | (go_at_call 11; refine (ref_dist _ _ _ (by omega) (by omega)).mono ?_; rintro e w' ⟨rfl, rfl⟩) | (go_at_call 15; refine (ref_in _ _ _ _ (by omega) (by omega) (by omega)).mono ?_; rintro e w' ⟨rfl, rfl⟩) | (go_at_call 16; refine (ref_step _ _ _ (by omega) (by omega)).mono ?_; rintro e w' ⟨rfl, rfl⟩) | (first | (go_at_call 8; refine (seq_awake _).mono ?_; rintro e w' ⟨rfl, rfl⟩) | (go_at_call 10; refine (seq_dist _ _ _).mono ?_; rintro e w' ⟨rfl, rfl⟩) | (go_at_call 14; refine (seq_in _ _ _ _).mono ?_; rintro e w' ⟨rfl, rfl⟩) | (go_at_call 12; refine (seq_ahead _ _ _).mono ?_; rintro e w' ⟨rfl, rfl⟩) | (go_at_call 9; refine (seq_step _ _ _).mono ?_; rintro e w' ⟨rfl, rfl⟩) | (go_at_call 13; refine (seq_later _ _ _).mono ?_; rintro e w' ⟨rfl, rfl⟩)))
    go_ret
    exact ⟨rfl, rfl⟩
set_option maxHeartbeats 400000 in
theorem seq_turns (a b c n : Int) (ha : 0 ≤ a ∧ a ≤ 4294967295) (hb : 0 ≤ b ∧ b ≤ 4294967295) (w : World) :
    Calls Try.prog 5 #[.int .u32 a, .int .u32 b, .int .u32 c, .int .i64 n] w fun e w' => e = .returned (.bool true) ∧ w = w' := by
  have e1 : ∀ a b, Seq.dist (Seq.step a n) (Seq.step b n) = Seq.dist a b := by
    intro a b; unfold Seq.dist Seq.step wrap64 wrap32; omega
  have h1 : (Seq.dist (Seq.step a n) (Seq.step b n) == Seq.dist a b) = true := by rw [e1]; simp
  have h2 : (Seq.ahead (Seq.step a n) (Seq.step b n) == Seq.ahead a b) = true := by unfold Seq.ahead; rw [e1]; simp
  have h3 : (Seq.later (Seq.step a n) (Seq.step b n) == Seq.step (Seq.later a b) n) = true := by
    unfold Seq.later Seq.ahead; rw [e1, beq_iff_eq]; split <;> rfl
  have h4 : (Seq.inn (Seq.step c n) (Seq.step a n) (Seq.step b n) == Seq.inn c a b) = true := by
    unfold Seq.inn Seq.step; rw [beq_iff_eq, Bool.eq_iff_iff, decide_eq_true_eq, decide_eq_true_eq]; omega
  clear ha hb e1
  go_enter Try.func5, Try.ntmps5
  go_wp2_with (first | (go_at_call 8; refine (seq_awake _).mono ?_; rintro e w' ⟨rfl, rfl⟩) | (go_at_call 10; refine (seq_dist _ _ _).mono ?_; rintro e w' ⟨rfl, rfl⟩) | (go_at_call 14; refine (seq_in _ _ _ _).mono ?_; rintro e w' ⟨rfl, rfl⟩) | (go_at_call 12; refine (seq_ahead _ _ _).mono ?_; rintro e w' ⟨rfl, rfl⟩) | (go_at_call 9; refine (seq_step _ _ _).mono ?_; rintro e w' ⟨rfl, rfl⟩) | (go_at_call 13; refine (seq_later _ _ _).mono ?_; rintro e w' ⟨rfl, rfl⟩))
  go_ret
  exact ⟨rfl, rfl⟩
set_option maxHeartbeats 400000 in
theorem seq_steps (a b n m : Int) (ha : 0 ≤ a ∧ a ≤ 4294967295) (hb : 0 ≤ b ∧ b ≤ 4294967295) (hn : -2147483648 ≤ n ∧ n ≤ 2147483647) (hm : -2147483648 ≤ m ∧ m ≤ 2147483647) (w : World) :
    Calls Try.prog 7 #[.int .u32 a, .int .u32 b, .int .i32 n, .int .i32 m] w fun e w' => e = .returned (.bool true) ∧ w = w' := by
  have h1 : (Seq.step (Seq.step a n) m == Seq.step a (n + m)) = true := by rw [beq_iff_eq]; unfold Seq.step; omega
  obtain ⟨hn0, hn1⟩ := hn
  obtain ⟨hm0, hm1⟩ := hm
  cases hq : Seq.ahead b a
  · have e : Seq.later a b = a := by unfold Seq.later; rw [hq]; rfl
    have h2 : (Seq.later a b == a) = true := by rw [e]; simp
    have h3 : Seq.ahead a (Seq.later a b) = false := by rw [e]; unfold Seq.ahead Seq.dist wrap64 wrap32; simp
    clear ha hb hq e
    go_enter Try.func7, Try.ntmps7
    go_wp2_with (first | (go_at_call 8; refine (seq_awake _).mono ?_; rintro e w' ⟨rfl, rfl⟩) | (go_at_call 10; refine (seq_dist _ _ _).mono ?_; rintro e w' ⟨rfl, rfl⟩) | (go_at_call 14; refine (seq_in _ _ _ _).mono ?_; rintro e w' ⟨rfl, rfl⟩) | (go_at_call 12; refine (seq_ahead _ _ _).mono ?_; rintro e w' ⟨rfl, rfl⟩) | (go_at_call 9; refine (seq_step _ _ _).mono ?_; rintro e w' ⟨rfl, rfl⟩) | (go_at_call 13; refine (seq_later _ _ _).mono ?_; rintro e w' ⟨rfl, rfl⟩))
    go_ret
    exact ⟨rfl, rfl⟩
  · have e : Seq.later a b = b := by unfold Seq.later; rw [hq]; rfl
    have hd : 0 < Seq.dist a b := by unfold Seq.ahead at hq; exact of_decide_eq_true hq
    have h2 : (Seq.later a b == a) = false := by
      rw [e, beq_eq_false_iff_ne]; intro hh; rw [hh] at hd; unfold Seq.dist wrap64 wrap32 at hd; omega
    have h2' : (Seq.later a b == b) = true := by rw [e]; simp
    have h3 : Seq.ahead a (Seq.later a b) = false := by
      rw [e]; unfold Seq.ahead; rw [decide_eq_false_iff_not]; unfold Seq.dist wrap64 wrap32 at hd ⊢; omega
    have h4 : Seq.ahead (Seq.later a b) a = true := by rw [e]; exact hq
    clear ha hb hq e hd
    go_enter Try.func7, Try.ntmps7
    go_wp2_with (first | (go_at_call 8; refine (seq_awake _).mono ?_; rintro e w' ⟨rfl, rfl⟩) | (go_at_call 10; refine (seq_dist _ _ _).mono ?_; rintro e w' ⟨rfl, rfl⟩) | (go_at_call 14; refine (seq_in _ _ _ _).mono ?_; rintro e w' ⟨rfl, rfl⟩) | (go_at_call 12; refine (seq_ahead _ _ _).mono ?_; rintro e w' ⟨rfl, rfl⟩) | (go_at_call 9; refine (seq_step _ _ _).mono ?_; rintro e w' ⟨rfl, rfl⟩) | (go_at_call 13; refine (seq_later _ _ _).mono ?_; rintro e w' ⟨rfl, rfl⟩))
    go_ret
    exact ⟨rfl, rfl⟩
theorem seq_order_plain (a n m : Int) (ha : 0 ≤ a ∧ a ≤ 4294967295) (hn : 0 ≤ n ∧ n < 1073741824) (hm : 0 ≤ m ∧ m < 1073741824) :
    (Seq.dist a (Seq.step (Seq.step a n) m) != n + m) = false ∧ Seq.ahead (Seq.step a n) a = decide (0 < n) ∧
    Seq.ahead (Seq.step (Seq.step a n) m) (Seq.step a n) = decide (0 < m) ∧
    (Seq.inn (Seq.step a n) a (Seq.step (Seq.step a n) m)) = true ∧
    (Seq.later a (Seq.step (Seq.step a n) m) == Seq.step (Seq.step a n) m) = true ∧
    Seq.ahead a (Seq.step (Seq.step a n) m) = false ∧
    (n ≠ 0 → Seq.inn a (Seq.step a n) (Seq.step (Seq.step a n) m) = false) := by
  have h1 : Seq.dist a (Seq.step (Seq.step a n) m) = n + m := by unfold Seq.dist Seq.step wrap64 wrap32; omega
  refine ⟨by rw [h1]; simp, ?_, ?_, ?_, ?_, ?_, ?_⟩
  · rw [Bool.eq_iff_iff]; unfold Seq.ahead; rw [decide_eq_true_eq, decide_eq_true_eq]; unfold Seq.dist Seq.step wrap64 wrap32; omega
  · rw [Bool.eq_iff_iff]; unfold Seq.ahead; rw [decide_eq_true_eq, decide_eq_true_eq]; unfold Seq.dist Seq.step wrap64 wrap32; omega
  · unfold Seq.inn; rw [decide_eq_true_eq]; unfold Seq.step; omega
  · rw [beq_iff_eq]; unfold Seq.later Seq.ahead; rw [h1]
    by_cases h : 0 < n + m
    · simp [h]
    · obtain rfl : n = 0 := by omega
      obtain rfl : m = 0 := by omega
      simp; unfold Seq.step; omega
  · unfold Seq.ahead; rw [decide_eq_false_iff_not]; unfold Seq.dist Seq.step wrap64 wrap32; omega
  · intro h; unfold Seq.inn; rw [decide_eq_false_iff_not]; unfold Seq.step; omega
set_option maxHeartbeats 400000 in
theorem seq_order (a n m : Int) (ha : 0 ≤ a ∧ a ≤ 4294967295) (hn : 0 ≤ n ∧ n ≤ 4294967295) (hm : 0 ≤ m ∧ m ≤ 4294967295) (w : World) :
    Calls Try.prog 6 #[.int .u32 a, .int .u32 n, .int .u32 m] w fun e w' => e = .returned (.bool true) ∧ w = w' := by
  obtain ⟨hn0, hn1⟩ := hn
  obtain ⟨hm0, hm1⟩ := hm
  obtain ⟨h1, h2, h3, h4, h5, h6, h7⟩ := seq_order_plain a (n % 1073741824) (m % 1073741824) ha (by omega) (by omega)
  by_cases h : n % 1073741824 = 0
  · have h8 : (n % 1073741824 == 0) = true := by simpa using h
    clear h7 ha
    have H := Lib.hid h
    clear h
    go_enter Try.func6, Try.ntmps6
    go_wp2_with (first | (go_at_call 8; refine (seq_awake _).mono ?_; rintro e w' ⟨rfl, rfl⟩) | (go_at_call 10; refine (seq_dist _ _ _).mono ?_; rintro e w' ⟨rfl, rfl⟩) | (go_at_call 14; refine (seq_in _ _ _ _).mono ?_; rintro e w' ⟨rfl, rfl⟩) | (go_at_call 12; refine (seq_ahead _ _ _).mono ?_; rintro e w' ⟨rfl, rfl⟩) | (go_at_call 9; refine (seq_step _ _ _).mono ?_; rintro e w' ⟨rfl, rfl⟩) | (go_at_call 13; refine (seq_later _ _ _).mono ?_; rintro e w' ⟨rfl, rfl⟩))
    go_ret
    exact ⟨rfl, rfl⟩
  · have h8 : (n % 1073741824 == 0) = false := by simpa using h
    have h9 := h7 h
    clear h7 ha
    have H := Lib.hid h
    clear h
    go_enter Try.func6, Try.ntmps6
    go_wp2_with (first | (go_at_call 8; refine (seq_awake _).mono ?_; rintro e w' ⟨rfl, rfl⟩) | (go_at_call 10; refine (seq_dist _ _ _).mono ?_; rintro e w' ⟨rfl, rfl⟩) | (go_at_call 14; refine (seq_in _ _ _ _).mono ?_; rintro e w' ⟨rfl, rfl⟩) | (go_at_call 12; refine (seq_ahead _ _ _).mono ?_; rintro e w' ⟨rfl, rfl⟩) | (go_at_call 9; refine (seq_step _ _ _).mono ?_; rintro e w' ⟨rfl, rfl⟩) | (go_at_call 13; refine (seq_later _ _ _).mono ?_; rintro e w' ⟨rfl, rfl⟩))
    go_ret
    exact ⟨rfl, rfl⟩
end Go.Proofs.Ythanglohehdjmaa
