/- The walk of mac.right. -/
import Derived.Test.YtpidpbjbgjkaaaaDoorMacRing
import Derived.Test.YtpidpbjbgjkaaaaDoorBlkV
import Derived.Deep.RegionHeld3
namespace Go.Proofs.YtpidpbjbgjkaaaaDoor
open Go.RowKit
set_option linter.unusedVariables false
namespace Mac
def tooLong (l : List Int) : Bool := decide (128 < l.length)
def right (ls : List (List Int)) : Bool := decide (ls.length ≤ 2) && !(ls.any tooLong)
def at_ (ls : List (List Int)) (b : List Int) (n want : Int) : Int := if 2 < ls.length ∨ n < 1 ∨ 32 < n then -1 else idx (fun l => bits l b n == want) ls
end Mac
theorem bel_al2 {w w' : World} (h : Below w.heap.size w w') (o : Obj) : Below w.heap.size w (w'.alloc o) := h.alloc h.size o
theorem bel_dr2 {B : Nat} {w w' : World} (h : Below B w w') : Below B w w'.drew := ⟨h.os, h.tape, h.output, h.size, h.block⟩
theorem bel_drN2 {B : Nat} {w w' : World} (h : Below B w w') (k : Nat) : Below B w (w'.drewN k) := ⟨h.os, h.tape, h.output, h.size, h.block⟩
end Go.Proofs.YtpidpbjbgjkaaaaDoor
