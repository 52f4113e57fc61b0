/- Peers over numbers. No program in sight. -/
import Derived.Test.YtihhcalgjkkalaaSeqPlain
import Derived.Test.YtihhcalgjkkalaaOwn
namespace Go.Proofs.Ytihhcalgjkkalaa
open Go.RowKit
set_option linter.unusedVariables false
namespace Peer
/-- bytes in memory -/
structure Sl where
  A : Option Addr
  n : Nat
  c : Nat
  l : List Int
structure Sl.ok (s : Sl) (w : World) : Prop where
  rd : Rd w 1 s.A s.n (bs s.l)
  by8 : isB s.l
  big : s.n ≤ 9223372036854775807
theorem Sl.ok.below {s : Sl} {w w' : World} (h : s.ok w) (hb : Below w.heap.size w w') : s.ok w' := ⟨h.rd.below hb, h.by8, h.big⟩
def nil : Sl := ⟨none, 0, 0, []⟩
theorem nil_ok (w : World) : nil.ok w := ⟨Rd.nil_ _, (fun x hx => by cases hx), (by show (0 : Nat) ≤ _; omega)⟩
structure P where
  st : Int
  port : Int
  to : Int
  fi : Int
  un : Int
  ne : Int
  wa : Int
  wi : Int
  ot : Int
  d : Sl
  g : Sl
structure P.ok (p : P) (w : World) : Prop where
  fi : 0 ≤ p.fi ∧ p.fi ≤ 4294967295
  un : 0 ≤ p.un ∧ p.un ≤ 4294967295
  ne : 0 ≤ p.ne ∧ p.ne ≤ 4294967295
  wa : 0 ≤ p.wa ∧ p.wa ≤ 4294967295
  d : p.d.ok w
  g : p.g.ok w
theorem P.ok.below {p : P} {w w' : World} (h : p.ok w) (hb : Below w.heap.size w w') : p.ok w' := ⟨h.fi, h.un, h.ne, h.wa, h.d.below hb, h.g.below hb⟩
def within (n a b : Int) : Bool := decide (a ≤ n) && decide (n ≤ b)
def inOrder (p : P) : Bool := within (Seq.dist p.fi p.un) 0 (Seq.dist p.fi p.ne) && decide (Seq.dist p.fi p.ne ≤ p.d.n + 1)
def right (p : P) : Bool := within p.st 0 4 && (within p.port 0 65535 && (within p.to 0 65535 && (within p.wi 1 65535 && (within p.ot 0 65535 && (decide (p.d.n ≤ 65536) && (decide (p.g.n ≤ 65536) && (decide (p.st ≤ 1) || inOrder p)))))))
end Peer
end Go.Proofs.Ytihhcalgjkkalaa
