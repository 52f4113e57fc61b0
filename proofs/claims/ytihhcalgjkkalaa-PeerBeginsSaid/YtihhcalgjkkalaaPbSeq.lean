/- Numbers of a connection by how far they are from the first one. No program in sight. -/
import Derived.Test.YtihhcalgjkkalaaSeqPlain
namespace Go.Proofs.Ytihhcalgjkkalaa
set_option linter.unusedVariables false
namespace Pb
def off (f : Int) (k : Nat) : Int := (f + (k : Int)) % 4294967296
theorem off_range (f : Int) (k : Nat) : 0 ≤ off f k ∧ off f k ≤ 4294967295 := by
  unfold off
  omega
theorem off_zero {f : Int} (h0 : 0 ≤ f) (h1 : f ≤ 4294967295) : off f 0 = f := by
  unfold off
  omega
theorem step_off (f : Int) (k n : Nat) : Seq.step (off f k) (n : Int) = off f (k + n) := by
  unfold Seq.step off
  omega
theorem step_first {f : Int} (h0 : 0 ≤ f) (h1 : f ≤ 4294967295) (n : Nat) : Seq.step f (n : Int) = off f n := by
  unfold Seq.step off
  omega
theorem dist_off (f : Int) (a b : Nat) (ha : a ≤ 1000000) (hb : b ≤ 1000000) : Seq.dist (off f a) (off f b) = (b : Int) - (a : Int) := by
  unfold Seq.dist off RowKit.wrap64 RowKit.wrap32
  omega
theorem dist_first {f : Int} (h0 : 0 ≤ f) (h1 : f ≤ 4294967295) (b : Nat) (hb : b ≤ 1000000) : Seq.dist f (off f b) = (b : Int) := by
  have h := dist_off f 0 b (by omega) hb
  rw [off_zero h0 h1] at h
  omega
theorem ahead_off (f : Int) (a b : Nat) (ha : a ≤ 1000000) (hb : b ≤ 1000000) : Seq.ahead (off f a) (off f b) = decide (b < a) := by
  unfold Seq.ahead
  rw [dist_off f b a hb ha]
  by_cases h : b < a
  · rw [decide_eq_true h, decide_eq_true (by omega)]
  · rw [decide_eq_false h, decide_eq_false (by omega)]
theorem later_off (f : Int) (a b : Nat) (ha : a ≤ 1000000) (hb : b ≤ 1000000) : Seq.later (off f a) (off f b) = off f (max a b) := by
  unfold Seq.later
  rw [ahead_off f b a hb ha]
  by_cases h : a < b
  · rw [decide_eq_true h, if_pos rfl, Nat.max_eq_right (by omega)]
  · rw [decide_eq_false h, if_neg (by simp), Nat.max_eq_left (by omega)]
theorem off_inj (f : Int) (a b : Nat) (ha : a ≤ 1000000) (hb : b ≤ 1000000) : off f a = off f b ↔ a = b := by
  unfold off
  omega
end Pb
end Go.Proofs.Ytihhcalgjkkalaa
