/-
  No cell of these rows narrows 'for every input' (looked for: loops, veiled, ifaces, maps, wideKeys, modest, calm, conditions, laid).
  DERIVED. THE GIVEN ROWS OF THIS SEAT. 3 by the template 'for every input the law returns true; each argument reads behind the call as it read before'; 0 by the template 'total and deterministic' (their statements: YtihhcalgjkkalaaTotals.lean).
  GIVEN WITH THE SEED: the statements are not yours to turn. If you find one false, say at which input.
  Laid BY PROGRAM, IN A SANDBOX (cutbox-rows.mjs): the forced cells as the released guide's own fill.sh prints them over the translation 3e31b89719f5b394… (all of the seat's roots in one cut). By AI agents, Wed Nov 11 2026. No macro, syntax, notation, axiom, sorry.
-/
import Derived.Test.YtihhcalgjkkalaaChecked
import GoSem.Claim
import GoSem.ClaimJoined
import GoSem.ClaimMapViews
import Derived.JoinedTies
import Derived.KernelRfl
namespace Go.Proofs.Ytihhcalgjkkalaa
/- THE CELL 'sum', in the pinned program and in every row, IS THE sha256 OF THE DUMP (.gsa) THAT YtihhcalgjkkalaaProg.lean LOADS. Nothing in Lean hashes anything: it is a label: what it is worth is what the hold of that sum in a sandbox is worth. -/
noncomputable def Try.pinned : Pinned := { name := "ytihhcalgjkkalaa", sum := "3e31b89719f5b394c24aebe108a891eeb98b6437689e06e34be8a7f6d9874cd2", checked := Try.checked }
namespace Rows
def none {H : Type} : Left H := { results := [], args := [] }

/-- 'casematelaw31.PeerMakes': WHATEVER THE INPUT: true; the input reads as it did. -/
def peerMakesSpec : ChangeSpec := { name := "peerMakes", fn := fun _ => fun
  | [d1, d2, d3, d4, d5] => { results := [.lit (.bool true)], args := [d1, d2, d3, d4, d5] }
  | _ => none }
def peerMakesRow : OpenClaim := { program := "ytihhcalgjkkalaa", sum := "3e31b89719f5b394c24aebe108a891eeb98b6437689e06e34be8a7f6d9874cd2", func := "casemate/casematelaw31.PeerMakes", spec := "peerMakes", apart := false }
def PeerMakesSaid : Prop := peerMakesRow.holds Try.pinned (OpenSpec.ofChange peerMakesSpec)

/-- ITS FALSE NEIGHBOUR: 'it returns false'. Refute it at one input. -/
def peerMakesWrong : ChangeSpec := { name := "peerMakes", fn := fun _ => fun
  | [d1, d2, d3, d4, d5] => { results := [.lit (.bool false)], args := [d1, d2, d3, d4, d5] }
  | _ => none }
def PeerMakesWrongFalsely : Prop := peerMakesRow.holds Try.pinned (OpenSpec.ofChange peerMakesWrong)

/-- 'casematelaw31.PeerDeaf': WHATEVER THE INPUT: true; the input reads as it did. -/
def peerDeafSpec : ChangeSpec := { name := "peerDeaf", fn := fun _ => fun
  | [d1, d2, d3] => { results := [.lit (.bool true)], args := [d1, d2, d3] }
  | _ => none }
def peerDeafRow : OpenClaim := { program := "ytihhcalgjkkalaa", sum := "3e31b89719f5b394c24aebe108a891eeb98b6437689e06e34be8a7f6d9874cd2", func := "casemate/casematelaw31.PeerDeaf", spec := "peerDeaf", apart := false }
def PeerDeafSaid : Prop := peerDeafRow.holds Try.pinned (OpenSpec.ofChange peerDeafSpec)

/-- ITS FALSE NEIGHBOUR: 'it returns false'. Refute it at one input. -/
def peerDeafWrong : ChangeSpec := { name := "peerDeaf", fn := fun _ => fun
  | [d1, d2, d3] => { results := [.lit (.bool false)], args := [d1, d2, d3] }
  | _ => none }
def PeerDeafWrongFalsely : Prop := peerDeafRow.holds Try.pinned (OpenSpec.ofChange peerDeafWrong)

/-- 'casematelaw31.PeerBegins': WHATEVER THE INPUT: true; the input reads as it did. -/
def peerBeginsSpec : ChangeSpec := { name := "peerBegins", fn := fun _ => fun
  | [d1, d2, d3, d4, d5, d6, d7, d8] => { results := [.lit (.bool true)], args := [d1, d2, d3, d4, d5, d6, d7, d8] }
  | _ => none }
def peerBeginsRow : OpenClaim := { program := "ytihhcalgjkkalaa", sum := "3e31b89719f5b394c24aebe108a891eeb98b6437689e06e34be8a7f6d9874cd2", func := "casemate/casematelaw31.PeerBegins", spec := "peerBegins", apart := false }
def PeerBeginsSaid : Prop := peerBeginsRow.holds Try.pinned (OpenSpec.ofChange peerBeginsSpec)

/-- ITS FALSE NEIGHBOUR: 'it returns false'. Refute it at one input. -/
def peerBeginsWrong : ChangeSpec := { name := "peerBegins", fn := fun _ => fun
  | [d1, d2, d3, d4, d5, d6, d7, d8] => { results := [.lit (.bool false)], args := [d1, d2, d3, d4, d5, d6, d7, d8] }
  | _ => none }
def PeerBeginsWrongFalsely : Prop := peerBeginsRow.holds Try.pinned (OpenSpec.ofChange peerBeginsWrong)

/- THE SECOND FORM. 'bulk': how many values and letters a reading holds, each counted each time it is reached (what is shared counts as often as it is met; a slice's spare places count too). A statement '..UptoSaid' is the law's where the arguments, and the package variables that the reading takes, are together of bulk at most 1048576: NARROWER than '..Said'. Prove '..Said' where nothing that the law and all that it calls make is longer than what came in: it says more and counts as full. Else prove '..UptoSaid'. A law counts once. -/
mutual
def uptoBulk {H : Type} : DataW H → Nat
  | .lit (.string bytes) => bytes.length + 1
  | .lit _ => 1
  | .nil => 1
  | .ptr d => uptoBulk d + 1
  | .slice elems spare => uptoBulkAll elems + uptoBulkAll spare + 1
  | .agg parts => uptoBulkAll parts + 1
  | .iface _ d => uptoBulk d + 1
  | .map entries => uptoBulkEntries entries + 1
  | .held _ => 1
def uptoBulkAll {H : Type} : List (DataW H) → Nat
  | [] => 0
  | d :: r => uptoBulk d + uptoBulkAll r
def uptoBulkEntries {H : Type} : List (Lit × DataW H) → Nat
  | [] => 0
  | x :: r => uptoBulkEntry x + uptoBulkEntries r
def uptoBulkEntry {H : Type} : Lit × DataW H → Nat
  | (.string bytes, d) => bytes.length + uptoBulk d + 1
  | (_, d) => uptoBulk d + 1
 end
def uptoSmall : (H : Type) → List (DataW H) → Bool := fun _ ds => decide (uptoBulkAll ds ≤ 1048576)
def OpenSpec.upto (s : _root_.Go.ChangeSpec) : _root_.Go.OpenSpec := { _root_.Go.OpenSpec.ofChange s with cond := some uptoSmall }

/-- 'casematelaw31.PeerMakes', WHERE WHAT IT READS IS OF BULK AT MOST 1048576: true; the input reads as it did. -/
def peerMakesUptoRow : OpenClaim := { program := "ytihhcalgjkkalaa", sum := "3e31b89719f5b394c24aebe108a891eeb98b6437689e06e34be8a7f6d9874cd2", func := "casemate/casematelaw31.PeerMakes", spec := "peerMakes", apart := false, narrowed := true }
def PeerMakesUptoSaid : Prop := peerMakesUptoRow.holds Try.pinned (OpenSpec.upto peerMakesSpec)

/-- 'casematelaw31.PeerDeaf', WHERE WHAT IT READS IS OF BULK AT MOST 1048576: true; the input reads as it did. -/
def peerDeafUptoRow : OpenClaim := { program := "ytihhcalgjkkalaa", sum := "3e31b89719f5b394c24aebe108a891eeb98b6437689e06e34be8a7f6d9874cd2", func := "casemate/casematelaw31.PeerDeaf", spec := "peerDeaf", apart := false, narrowed := true }
def PeerDeafUptoSaid : Prop := peerDeafUptoRow.holds Try.pinned (OpenSpec.upto peerDeafSpec)

/-- 'casematelaw31.PeerBegins', WHERE WHAT IT READS IS OF BULK AT MOST 1048576: true; the input reads as it did. -/
def peerBeginsUptoRow : OpenClaim := { program := "ytihhcalgjkkalaa", sum := "3e31b89719f5b394c24aebe108a891eeb98b6437689e06e34be8a7f6d9874cd2", func := "casemate/casematelaw31.PeerBegins", spec := "peerBegins", apart := false, narrowed := true }
def PeerBeginsUptoSaid : Prop := peerBeginsUptoRow.holds Try.pinned (OpenSpec.upto peerBeginsSpec)

end Rows
end Go.Proofs.Ytihhcalgjkkalaa
