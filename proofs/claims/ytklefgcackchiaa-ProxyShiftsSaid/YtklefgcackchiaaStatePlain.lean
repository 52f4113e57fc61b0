/- A connection's state over numbers. No program in sight. -/
import Derived.Test.YtklefgcackchiaaBase
namespace Go.Proofs.Ytklefgcackchiaa
open Go.RowKit
set_option linter.unusedVariables false
namespace State
structure C where
  st : Int
  f0 : Bool
  f1 : Bool
  a0 : Int
  a1 : Int
  k0 : Bool
  k1 : Bool
deriving Inhabited, DecidableEq
def C.cells (c : C) : List Value := [.int .i64 c.st, .bool c.f0, .bool c.f1, .int .u32 c.a0, .int .u32 c.a1, .bool c.k0, .bool c.k1]
def bi (b : Bool) : Int := if b = true then 1 else 0
/-- how many of two, of the first k -/
def cnt (x y : Bool) (k : Nat) : Int := if k = 0 then 0 else if k = 1 then bi x else bi x + bi y
def fins (c : C) : Int := bi c.f0 + bi c.f1
def acks (c : C) : Int := bi c.k0 + bi c.k1
def sideB (f : Bool) (a : Int) (k : Bool) : Bool := f || (a == 0 && !k)
def rightB (c : C) : Bool :=
  sideB c.f0 c.a0 c.k0 && sideB c.f1 c.a1 c.k1 &&
  (if c.st = 0 ∨ c.st = 1 ∨ c.st = 2 ∨ c.st = 3 then fins c == 0 else if c.st = 4 then fins c == 1 else if c.st = 5 then fins c == 2 && decide (acks c < 2) else if c.st = 6 then fins c == 2 && acks c == 2 else c.st == 7)
end State
end Go.Proofs.Ytklefgcackchiaa
