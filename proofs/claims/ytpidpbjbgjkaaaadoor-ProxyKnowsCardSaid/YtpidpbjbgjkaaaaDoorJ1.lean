/- A connection's state over numbers. No program in sight. Plain numbers that go round: what package seq computes, over Int. No program in sight. A connection goes on by a segment, over numbers. No program in sight. Flags as bits. No program in sight. -/
import Derived.Test.YtpidpbjbgjkaaaaDoorBase
import Derived.RowKit
namespace Go.Proofs.YtpidpbjbgjkaaaaDoor
open Go.RowKit
set_option linter.unusedVariables false
namespace State
structure C where
  st : Int
  f0 : Bool
  f1 : Bool
  a0 : Int
  a1 : Int
  k0 : Bool
  k1 : Bool
deriving Inhabited, DecidableEq
def C.cells (c : C) : List Value := [.int .i64 c.st, .bool c.f0, .bool c.f1, .int .u32 c.a0, .int .u32 c.a1, .bool c.k0, .bool c.k1]
def bi (b : Bool) : Int := if b = true then 1 else 0
/-- how many of two, of the first k -/
def cnt (x y : Bool) (k : Nat) : Int := if k = 0 then 0 else if k = 1 then bi x else bi x + bi y
def fins (c : C) : Int := bi c.f0 + bi c.f1
def acks (c : C) : Int := bi c.k0 + bi c.k1
def sideB (f : Bool) (a : Int) (k : Bool) : Bool := f || (a == 0 && !k)
def rightB (c : C) : Bool :=
  sideB c.f0 c.a0 c.k0 && sideB c.f1 c.a1 c.k1 &&
  (if c.st = 0 ∨ c.st = 1 ∨ c.st = 2 ∨ c.st = 3 then fins c == 0 else if c.st = 4 then fins c == 1 else if c.st = 5 then fins c == 2 && decide (acks c < 2) else if c.st = 6 then fins c == 2 && acks c == 2 else c.st == 7)
end State
end Go.Proofs.YtpidpbjbgjkaaaaDoor
namespace Go.Proofs.YtpidpbjbgjkaaaaDoor
open Go.RowKit
namespace Seq
def dist (a b : Int) : Int := wrap64 (wrap32 ((b - a) % 4294967296))
def step (a n : Int) : Int := (a + n % 4294967296) % 4294967296
def ahead (a b : Int) : Bool := decide (0 < dist b a)
def later (a b : Int) : Int := if ahead b a then b else a
def inn (x f t : Int) : Bool := decide ((x - f) % 4294967296 ≤ (t - f) % 4294967296)
theorem dist_bd (a b : Int) : -2147483648 ≤ dist a b ∧ dist a b < 2147483648 := by
  unfold dist wrap64 wrap32; omega
theorem step_bd (a n : Int) : 0 ≤ step a n ∧ step a n < 4294967296 := by unfold step; omega
end Seq
end Go.Proofs.YtpidpbjbgjkaaaaDoor
namespace Go.Proofs.YtpidpbjbgjkaaaaDoor
open Go.RowKit
set_option linter.unusedVariables false
namespace State
/-- is one of the flags f there? -/
def has (fl f : Int) : Bool := bits .and .i64 fl f != 0
/-- a segment of a side: its flags, the number behind it, the number it acknowledges -/
structure W where
  side : Int
  syn : Bool
  ack : Bool
  fin : Bool
  rst : Bool
  behind : Int
  ackn : Int
deriving Inhabited
/-- how long a segment counts -/
def size (n : Nat) (fl : Int) : Int := (n : Int) + bi (has fl 2) + bi (has fl 1)
def said (side : Int) (sq ak fl : Int) (n : Nat) : W := ⟨side, has fl 2, has fl 16, has fl 1, has fl 4, Seq.step sq (size n fl), ak⟩
def begins (w : W) : Bool := w.side == 0 && w.syn && !w.ack && !w.fin
def finOf (c : C) (s : Int) : Bool := if s = 0 then c.f0 else c.f1
def endNow (c : C) (w : W) : C := if (w.fin && !finOf c w.side) = true then (if w.side = 0 then { c with f0 := true, a0 := w.behind } else { c with f1 := true, a1 := w.behind }) else c
/-- the other side's end is acknowledged -/
def ackNow (c : C) (w : W) : C :=
  if w.side = 0 then (if (c.f1 && decide (0 ≤ Seq.dist c.a1 w.ackn)) = true then { c with k1 := true } else c)
  else (if (c.f0 && decide (0 ≤ Seq.dist c.a0 w.ackn)) = true then { c with k0 := true } else c)
def talk (c : C) (w : W) : C × Bool :=
  if (w.syn || !w.ack) = true then (c, false)
  else
    let d := ackNow (endNow c w) w
    ({ d with st := if acks d = 2 then 6 else 3 + fins d }, true)
def heard (c : C) (w : W) : C × Bool :=
  if w.syn = true then (c, !w.fin) else if (w.ack && w.side == 0) = true then talk c w else (c, w.ack && !w.fin)
def fresh : C := ⟨0, false, false, 0, 0, false, false⟩
def over (c : C) : Bool := c.st == 6 || c.st == 7
def go (c : C) (w : W) : C × Bool :=
  if (w.rst && (over c || c.st == 0)) = true then (c, false)
  else if w.rst = true then ({ c with st := 7 }, true)
  else if (begins w && (over c || c.st == 0)) = true then ({ fresh with st := 1 }, true)
  else if c.st = 1 then (if (w.side == 1 && w.syn && !w.fin) = true then ({ c with st := 2 }, true) else (c, begins w))
  else if c.st = 2 then heard c w
  else if c.st = 3 ∨ c.st = 4 ∨ c.st = 5 ∨ c.st = 6 then talk c w
  else (c, false)
def step (c : C) (w : W) : C × Bool := if (!rightB c || (decide (w.side < 0) || decide (1 < w.side))) = true then (c, false) else go c w
def lasts (st tcp : Int) : Int :=
  let t := if tcp < 1 then 1 else tcp
  if st = 3 then t else if st = 0 ∨ st = 7 then 1 else if st = 1 ∨ st = 2 ∨ st = 4 ∨ st = 5 ∨ st = 6 then t / 8 + 1 else 0
end State
end Go.Proofs.YtpidpbjbgjkaaaaDoor
namespace Go.Proofs.YtpidpbjbgjkaaaaDoor
open Go.RowKit
set_option linter.unusedVariables false
namespace State
theorem ofInt_small (k : Nat) (hk : k < 32) : (BitVec.ofInt 64 (k : Int)).toNat = k := by
  rw [BitVec.toNat_ofInt]
  have : ((k : Int) % ((2 ^ 64 : Nat) : Int)) = (k : Int) := Int.emod_eq_of_lt (by omega) (by have : (32 : Nat) < 2 ^ 64 := by decide
                                                                                              omega)
  rw [this, Int.toNat_natCast]
theorem wrap_small (n : Nat) (h : n < 32) : IntKind.i64.wrap (n : Int) = (n : Int) := by rw [IntKind.wrap_i64]; omega
/-- the lowest five bits -/
def low (fl : Int) : Nat := (BitVec.ofInt 64 fl).toNat % 32
theorem low_lt (fl : Int) : low fl < 32 := Nat.mod_lt _ (by decide)
theorem bits_low5 (fl : Int) (k : Nat) (hk : k < 32) : bits .and .i64 fl (k : Int) = ((low fl &&& k : Nat) : Int) := by
  show IntKind.i64.wrap (((BitVec.ofInt 64 fl &&& BitVec.ofInt 64 (k : Int)).toNat : Nat) : Int) = _
  have h31 : k &&& 31 = k := by
    have := Nat.and_two_pow_sub_one_eq_mod k 5
    rw [show 2 ^ 5 - 1 = 31 by decide] at this
    rw [this]; exact Nat.mod_eq_of_lt hk
  have e : (BitVec.ofInt 64 fl &&& BitVec.ofInt 64 (k : Int)).toNat = low fl &&& k := by
    rw [BitVec.toNat_and, ofInt_small k hk]
    unfold low
    have := Nat.and_two_pow_sub_one_eq_mod (BitVec.ofInt 64 fl).toNat 5
    rw [show 2 ^ 5 - 1 = 31 by decide, show 2 ^ 5 = 32 by decide] at this
    rw [← this, Nat.and_assoc, Nat.and_comm 31 k, h31]
  rw [e]
  exact wrap_small _ (Nat.lt_of_le_of_lt Nat.and_le_right hk)
theorem has_low (fl : Int) (k : Nat) (hk : k < 32) : has fl (k : Int) = ((low fl &&& k) != 0) := by
  unfold has
  rw [bits_low5 fl k hk]
  rw [Bool.eq_iff_iff]
  simp
theorem dec23 : ∀ m : Nat, m < 32 → ((((m &&& 23 : Nat) : Int) == 2) = (((m &&& 2) != 0) && !((m &&& 16) != 0) && !((m &&& 1) != 0) && !((m &&& 4) != 0))) := by decide
theorem dec22 : ∀ m : Nat, m < 32 → ((((m &&& 22 : Nat) : Int) == 16) = (!((m &&& 2) != 0) && ((m &&& 16) != 0) && !((m &&& 4) != 0))) := by decide
theorem decOne : ∀ m : Nat, m < 32 → (((((m &&& 1 : Nat) : Int) == 1) = ((m &&& 1) != 0)) ∧ ((((m &&& 2 : Nat) : Int) == 2) = ((m &&& 2) != 0)) ∧ ((((m &&& 4 : Nat) : Int) == 4) = ((m &&& 4) != 0)) ∧ ((((m &&& 16 : Nat) : Int) == 16) = ((m &&& 16) != 0))) := by decide
theorem mask23 (fl : Int) : (bits .and .i64 fl 23 == 2) = (has fl 2 && !has fl 16 && !has fl 1 && !has fl 4) := by
  have h : bits .and .i64 fl 23 = _ := bits_low5 fl 23 (by decide)
  have h2 : has fl 2 = _ := has_low fl 2 (by decide)
  have h16 : has fl 16 = _ := has_low fl 16 (by decide)
  have h1 : has fl 1 = _ := has_low fl 1 (by decide)
  have h4 : has fl 4 = _ := has_low fl 4 (by decide)
  rw [h, h2, h16, h1, h4]
  exact dec23 _ (low_lt fl)
theorem mask22 (fl : Int) : (bits .and .i64 fl 22 == 16) = (!has fl 2 && has fl 16 && !has fl 4) := by
  have h : bits .and .i64 fl 22 = _ := bits_low5 fl 22 (by decide)
  have h2 : has fl 2 = _ := has_low fl 2 (by decide)
  have h16 : has fl 16 = _ := has_low fl 16 (by decide)
  have h4 : has fl 4 = _ := has_low fl 4 (by decide)
  rw [h, h2, h16, h4]
  exact dec22 _ (low_lt fl)
theorem eq_has (fl : Int) : (bits .and .i64 fl 1 == 1) = has fl 1 ∧ (bits .and .i64 fl 2 == 2) = has fl 2 ∧ (bits .and .i64 fl 4 == 4) = has fl 4 ∧ (bits .and .i64 fl 16 == 16) = has fl 16 := by
  have g1 : bits .and .i64 fl 1 = _ := bits_low5 fl 1 (by decide)
  have g2 : bits .and .i64 fl 2 = _ := bits_low5 fl 2 (by decide)
  have g4 : bits .and .i64 fl 4 = _ := bits_low5 fl 4 (by decide)
  have g16 : bits .and .i64 fl 16 = _ := bits_low5 fl 16 (by decide)
  have h2 : has fl 2 = _ := has_low fl 2 (by decide)
  have h16 : has fl 16 = _ := has_low fl 16 (by decide)
  have h1 : has fl 1 = _ := has_low fl 1 (by decide)
  have h4 : has fl 4 = _ := has_low fl 4 (by decide)
  rw [g1, g2, g4, g16, h2, h16, h1, h4]
  exact decOne _ (low_lt fl)
theorem ofInt_wrap (x : BitVec 64) : BitVec.ofInt 64 (IntKind.i64.wrap (x.toNat : Int)) = x := by
  apply BitVec.eq_of_toNat_eq
  rw [BitVec.toNat_ofInt, IntKind.wrap_i64]
  have := x.isLt
  omega
theorem has_or (fl : Int) : has (bits .or .i64 fl 4) 4 = true := by
  have h : has (bits .or .i64 fl 4) 4 = _ := has_low (bits .or .i64 fl 4) 4 (by decide)
  rw [h]
  unfold low
  have e : bits .or .i64 fl 4 = IntKind.i64.wrap (((BitVec.ofInt 64 fl ||| BitVec.ofInt 64 4).toNat : Nat) : Int) := rfl
  rw [e, ofInt_wrap, BitVec.toNat_or]
  have e4 : (BitVec.ofInt 64 4).toNat = 4 := rfl
  rw [e4]
  have := Nat.and_two_pow_sub_one_eq_mod ((BitVec.ofInt 64 fl).toNat ||| 4) 5
  rw [show 2 ^ 5 - 1 = 31 by decide, show 2 ^ 5 = 32 by decide] at this
  rw [← this, Nat.and_assoc, show (31 &&& 4 : Nat) = 4 by decide, Nat.and_or_distrib_right, show (4 &&& 4 : Nat) = 4 by decide]
  rw [bne_iff_ne]
  intro hz
  have h4 := Nat.right_le_or (n := (BitVec.ofInt 64 fl).toNat &&& 4) (m := 4)
  rw [hz] at h4
  omega
end State
end Go.Proofs.YtpidpbjbgjkaaaaDoor
