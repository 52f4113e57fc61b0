/- A connection that opens and closes, word by word. No program in sight. -/
import Derived.Test.YtliibpajgdncpaaStateBits
namespace Go.Proofs.Ytliibpajgdncpaa
open Go.RowKit
set_option linter.unusedVariables false
namespace State
theorem said2 (s q r : Int) : said s q r 2 0 = ⟨s, true, false, false, false, Seq.step q 1, r⟩ := by
  have h : size 0 2 = 1 := by decide +kernel
  unfold said
  rw [h]
  have h1 : has 2 2 = true := by decide +kernel
  have h2 : has 2 16 = false := by decide +kernel
  have h3 : has 2 1 = false := by decide +kernel
  have h4 : has 2 4 = false := by decide +kernel
  rw [h1, h2, h3, h4]
theorem said18 (s q r : Int) : said s q r 18 0 = ⟨s, true, true, false, false, Seq.step q 1, r⟩ := by
  have h : size 0 18 = 1 := by decide +kernel
  unfold said
  rw [h]
  have h1 : has 18 2 = true := by decide +kernel
  have h2 : has 18 16 = true := by decide +kernel
  have h3 : has 18 1 = false := by decide +kernel
  have h4 : has 18 4 = false := by decide +kernel
  rw [h1, h2, h3, h4]
theorem said16 (s q r : Int) : said s q r 16 0 = ⟨s, false, true, false, false, Seq.step q 0, r⟩ := by
  have h : size 0 16 = 0 := by decide +kernel
  unfold said
  rw [h]
  have h1 : has 16 2 = false := by decide +kernel
  have h2 : has 16 16 = true := by decide +kernel
  have h3 : has 16 1 = false := by decide +kernel
  have h4 : has 16 4 = false := by decide +kernel
  rw [h1, h2, h3, h4]
theorem said17 (s q r : Int) : said s q r 17 0 = ⟨s, false, true, true, false, Seq.step q 1, r⟩ := by
  have h : size 0 17 = 1 := by decide +kernel
  unfold said
  rw [h]
  have h1 : has 17 2 = false := by decide +kernel
  have h2 : has 17 16 = true := by decide +kernel
  have h3 : has 17 1 = true := by decide +kernel
  have h4 : has 17 4 = false := by decide +kernel
  rw [h1, h2, h3, h4]
def nx (n : Int) : Int := (n + 1) % 4294967296
theorem step_one (n : Int) : Seq.step n 1 = nx n := by unfold Seq.step nx; omega
theorem dist_same (n : Int) : decide (0 ≤ Seq.dist n n) = true := by rw [decide_eq_true_eq]; unfold Seq.dist wrap64 wrap32; omega
/-- the connection behind i words, if side 0 ends first: n, m the numbers behind both Syns -/
def conn0 (n m : Int) : Nat → C
  | 0 => fresh
  | 1 => ⟨1, false, false, 0, 0, false, false⟩
  | 2 => ⟨2, false, false, 0, 0, false, false⟩
  | 3 => ⟨3, false, false, 0, 0, false, false⟩
  | 4 => ⟨4, true, false, nx n, 0, false, false⟩
  | 5 => ⟨4, true, false, nx n, 0, true, false⟩
  | 6 => ⟨5, true, true, nx n, nx m, true, false⟩
  | _ => ⟨6, true, true, nx n, nx m, true, true⟩
/-- if side 1 ends first -/
def conn1 (n m : Int) : Nat → C
  | 0 => fresh
  | 1 => ⟨1, false, false, 0, 0, false, false⟩
  | 2 => ⟨2, false, false, 0, 0, false, false⟩
  | 3 => ⟨3, false, false, 0, 0, false, false⟩
  | 4 => ⟨4, false, true, 0, nx m, false, false⟩
  | 5 => ⟨4, false, true, 0, nx m, false, true⟩
  | 6 => ⟨5, true, true, nx n, nx m, false, true⟩
  | _ => ⟨6, true, true, nx n, nx m, true, true⟩
variable (a b n m : Int)
theorem c0_0 : step (conn0 n m 0) (said 0 a 0 2 0) = (conn0 n m 1, true) := by rw [said2]; rfl
theorem c0_1 : step (conn0 n m 1) (said 1 b n 18 0) = (conn0 n m 2, true) := by rw [said18]; rfl
theorem c0_2 : step (conn0 n m 2) (said 0 n m 16 0) = (conn0 n m 3, true) := by rw [said16]; rfl
theorem c0_3 : step (conn0 n m 3) (said 0 n m 17 0) = (conn0 n m 4, true) := by rw [said17, step_one]; rfl
theorem c0_4 : step (conn0 n m 4) (said 1 m (nx n) 16 0) = (conn0 n m 5, true) := by
  rw [said16]
  have h : step (conn0 n m 4) ⟨1, false, true, false, false, Seq.step m 0, nx n⟩ = talk (conn0 n m 4) ⟨1, false, true, false, false, Seq.step m 0, nx n⟩ := rfl
  have d0 := of_decide_eq_true (dist_same (nx n))
  have d1 := of_decide_eq_true (dist_same (nx m))
  rw [h]
  unfold talk ackNow endNow
  simp [conn0, finOf, acks, fins, bi, d0]
theorem c0_5 : step (conn0 n m 5) (said 1 m (nx n) 17 0) = (conn0 n m 6, true) := by
  rw [said17]
  have h : step (conn0 n m 5) ⟨1, false, true, true, false, Seq.step m 1, nx n⟩ = talk (conn0 n m 5) ⟨1, false, true, true, false, Seq.step m 1, nx n⟩ := rfl
  have d0 := of_decide_eq_true (dist_same (nx n))
  have d1 := of_decide_eq_true (dist_same (nx m))
  rw [h, step_one]
  unfold talk ackNow endNow
  simp [conn0, finOf, acks, fins, bi, d0]
theorem c0_6 : step (conn0 n m 6) (said 0 (nx n) (nx m) 16 0) = (conn0 n m 7, true) := by
  rw [said16]
  have h : step (conn0 n m 6) ⟨0, false, true, false, false, Seq.step (nx n) 0, nx m⟩ = talk (conn0 n m 6) ⟨0, false, true, false, false, Seq.step (nx n) 0, nx m⟩ := rfl
  have d0 := of_decide_eq_true (dist_same (nx n))
  have d1 := of_decide_eq_true (dist_same (nx m))
  rw [h]
  unfold talk ackNow endNow
  simp [conn0, finOf, acks, bi, d1]
theorem c1_0 : step (conn1 n m 0) (said 0 a 0 2 0) = (conn1 n m 1, true) := by rw [said2]; rfl
theorem c1_1 : step (conn1 n m 1) (said 1 b n 18 0) = (conn1 n m 2, true) := by rw [said18]; rfl
theorem c1_2 : step (conn1 n m 2) (said 0 n m 16 0) = (conn1 n m 3, true) := by rw [said16]; rfl
theorem c1_3 : step (conn1 n m 3) (said 1 m n 17 0) = (conn1 n m 4, true) := by rw [said17, step_one]; rfl
theorem c1_4 : step (conn1 n m 4) (said 0 n (nx m) 16 0) = (conn1 n m 5, true) := by
  rw [said16]
  have h : step (conn1 n m 4) ⟨0, false, true, false, false, Seq.step n 0, nx m⟩ = talk (conn1 n m 4) ⟨0, false, true, false, false, Seq.step n 0, nx m⟩ := rfl
  have d0 := of_decide_eq_true (dist_same (nx n))
  have d1 := of_decide_eq_true (dist_same (nx m))
  rw [h]
  unfold talk ackNow endNow
  simp [conn1, finOf, acks, fins, bi, d1]
theorem c1_5 : step (conn1 n m 5) (said 0 n (nx m) 17 0) = (conn1 n m 6, true) := by
  rw [said17]
  have h : step (conn1 n m 5) ⟨0, false, true, true, false, Seq.step n 1, nx m⟩ = talk (conn1 n m 5) ⟨0, false, true, true, false, Seq.step n 1, nx m⟩ := rfl
  have d0 := of_decide_eq_true (dist_same (nx n))
  have d1 := of_decide_eq_true (dist_same (nx m))
  rw [h, step_one]
  unfold talk ackNow endNow
  simp [conn1, finOf, acks, fins, bi, d1]
theorem c1_6 : step (conn1 n m 6) (said 1 (nx m) (nx n) 16 0) = (conn1 n m 7, true) := by
  rw [said16]
  have h : step (conn1 n m 6) ⟨1, false, true, false, false, Seq.step (nx m) 0, nx n⟩ = talk (conn1 n m 6) ⟨1, false, true, false, false, Seq.step (nx m) 0, nx n⟩ := rfl
  have d0 := of_decide_eq_true (dist_same (nx n))
  have d1 := of_decide_eq_true (dist_same (nx m))
  rw [h]
  unfold talk ackNow endNow
  simp [conn1, finOf, acks, bi, d0]
end State
end Go.Proofs.Ytliibpajgdncpaa
