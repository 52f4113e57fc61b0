/- Plain numbers that go round: what package seq computes, over Int. No program in sight. -/
import Derived.RowKit
namespace Go.Proofs.Ytihhcalgjkkalaa
open Go.RowKit
namespace Seq
def dist (a b : Int) : Int := wrap64 (wrap32 ((b - a) % 4294967296))
def step (a n : Int) : Int := (a + n % 4294967296) % 4294967296
def ahead (a b : Int) : Bool := decide (0 < dist b a)
def later (a b : Int) : Int := if ahead b a then b else a
def inn (x f t : Int) : Bool := decide ((x - f) % 4294967296 ≤ (t - f) % 4294967296)
theorem dist_bd (a b : Int) : -2147483648 ≤ dist a b ∧ dist a b < 2147483648 := by
  unfold dist wrap64 wrap32; omega
theorem step_bd (a n : Int) : 0 ≤ step a n ∧ step a n < 4294967296 := by unfold step; omega
end Seq
end Go.Proofs.Ytihhcalgjkkalaa
