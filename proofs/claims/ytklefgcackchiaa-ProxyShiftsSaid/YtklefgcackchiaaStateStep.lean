/- A connection goes on by a segment, over numbers. No program in sight. -/
import Derived.Test.YtklefgcackchiaaStatePlain
import Derived.Test.YtklefgcackchiaaSeqPlain
namespace Go.Proofs.Ytklefgcackchiaa
open Go.RowKit
set_option linter.unusedVariables false
namespace State
/-- is one of the flags f there? -/
def has (fl f : Int) : Bool := bits .and .i64 fl f != 0
/-- a segment of a side: its flags, the number behind it, the number it acknowledges -/
structure W where
  side : Int
  syn : Bool
  ack : Bool
  fin : Bool
  rst : Bool
  behind : Int
  ackn : Int
deriving Inhabited
/-- how long a segment counts -/
def size (n : Nat) (fl : Int) : Int := (n : Int) + bi (has fl 2) + bi (has fl 1)
def said (side : Int) (sq ak fl : Int) (n : Nat) : W := ⟨side, has fl 2, has fl 16, has fl 1, has fl 4, Seq.step sq (size n fl), ak⟩
def begins (w : W) : Bool := w.side == 0 && w.syn && !w.ack && !w.fin
def finOf (c : C) (s : Int) : Bool := if s = 0 then c.f0 else c.f1
def endNow (c : C) (w : W) : C := if (w.fin && !finOf c w.side) = true then (if w.side = 0 then { c with f0 := true, a0 := w.behind } else { c with f1 := true, a1 := w.behind }) else c
/-- the other side's end is acknowledged -/
def ackNow (c : C) (w : W) : C :=
  if w.side = 0 then (if (c.f1 && decide (0 ≤ Seq.dist c.a1 w.ackn)) = true then { c with k1 := true } else c)
  else (if (c.f0 && decide (0 ≤ Seq.dist c.a0 w.ackn)) = true then { c with k0 := true } else c)
def talk (c : C) (w : W) : C × Bool :=
  if (w.syn || !w.ack) = true then (c, false)
  else
    let d := ackNow (endNow c w) w
    ({ d with st := if acks d = 2 then 6 else 3 + fins d }, true)
def heard (c : C) (w : W) : C × Bool :=
  if w.syn = true then (c, !w.fin) else if (w.ack && w.side == 0) = true then talk c w else (c, w.ack && !w.fin)
def fresh : C := ⟨0, false, false, 0, 0, false, false⟩
def over (c : C) : Bool := c.st == 6 || c.st == 7
def go (c : C) (w : W) : C × Bool :=
  if (w.rst && (over c || c.st == 0)) = true then (c, false)
  else if w.rst = true then ({ c with st := 7 }, true)
  else if (begins w && (over c || c.st == 0)) = true then ({ fresh with st := 1 }, true)
  else if c.st = 1 then (if (w.side == 1 && w.syn && !w.fin) = true then ({ c with st := 2 }, true) else (c, begins w))
  else if c.st = 2 then heard c w
  else if c.st = 3 ∨ c.st = 4 ∨ c.st = 5 ∨ c.st = 6 then talk c w
  else (c, false)
def step (c : C) (w : W) : C × Bool := if (!rightB c || (decide (w.side < 0) || decide (1 < w.side))) = true then (c, false) else go c w
def lasts (st tcp : Int) : Int :=
  let t := if tcp < 1 then 1 else tcp
  if st = 3 then t else if st = 0 ∨ st = 7 then 1 else if st = 1 ∨ st = 2 ∨ st = 4 ∨ st = 5 ∨ st = 6 then t / 8 + 1 else 0
end State
end Go.Proofs.Ytklefgcackchiaa
