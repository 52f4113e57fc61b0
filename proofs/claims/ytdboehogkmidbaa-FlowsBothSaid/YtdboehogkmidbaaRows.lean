/-
  No cell of these rows narrows 'for every input' (looked for: loops, veiled, ifaces, maps, wideKeys, modest, calm, conditions, laid).
  DERIVED. THE GIVEN ROWS OF THIS SEAT. 2 by the template 'for every input the law returns true; each argument reads behind the call as it read before'; 0 by the template 'total and deterministic' (their statements: YtdboehogkmidbaaTotals.lean).
  GIVEN WITH THE SEED: the statements are not yours to turn. If you find one false, say at which input.
  Laid BY PROGRAM, IN A SANDBOX (cutbox-rows.mjs): the forced cells as the released guide's own fill.sh prints them over the translation 2ed39438598877f0… (all of the seat's roots in one cut). By AI agents, Wed Nov 11 2026. No macro, syntax, notation, axiom, sorry.
-/
import Derived.Test.YtdboehogkmidbaaChecked
import GoSem.Claim
import GoSem.ClaimJoined
import GoSem.ClaimMapViews
import Derived.JoinedTies
import Derived.KernelRfl
namespace Go.Proofs.Ytdboehogkmidbaa
/- THE CELL 'sum', in the pinned program and in every row, IS THE sha256 OF THE DUMP (.gsa) THAT YtdboehogkmidbaaProg.lean LOADS. Nothing in Lean hashes anything: it is a label: what it is worth is what the hold of that sum in a sandbox is worth. -/
noncomputable def Try.pinned : Pinned := { name := "ytdboehogkmidbaa", sum := "2ed39438598877f05b7aa6452b8e66cb66f1f6089e04f1d841b75a6e64f588af", checked := Try.checked }
namespace Rows
def none {H : Type} : Left H := { results := [], args := [] }

/-- 'casematelaw12.FlowsLeast': WHATEVER THE INPUT: true; the input reads as it did. -/
def flowsLeastSpec : ChangeSpec := { name := "flowsLeast", fn := fun _ => fun
  | [d1, d2] => { results := [.lit (.bool true)], args := [d1, d2] }
  | _ => none }
def flowsLeastRow : OpenClaim := { program := "ytdboehogkmidbaa", sum := "2ed39438598877f05b7aa6452b8e66cb66f1f6089e04f1d841b75a6e64f588af", func := "casemate/casematelaw12.FlowsLeast", spec := "flowsLeast", unfollowed := true, recurses := true, apart := false }
def FlowsLeastSaid : Prop := flowsLeastRow.holds Try.pinned (OpenSpec.ofChange flowsLeastSpec)

/-- ITS FALSE NEIGHBOUR: 'it returns false'. Refute it at one input. -/
def flowsLeastWrong : ChangeSpec := { name := "flowsLeast", fn := fun _ => fun
  | [d1, d2] => { results := [.lit (.bool false)], args := [d1, d2] }
  | _ => none }
def FlowsLeastWrongFalsely : Prop := flowsLeastRow.holds Try.pinned (OpenSpec.ofChange flowsLeastWrong)

/-- 'casematelaw12.FlowsBoth': WHATEVER THE INPUT: true; the input reads as it did. -/
def flowsBothSpec : ChangeSpec := { name := "flowsBoth", fn := fun _ => fun
  | [d1, d2] => { results := [.lit (.bool true)], args := [d1, d2] }
  | _ => none }
def flowsBothRow : OpenClaim := { program := "ytdboehogkmidbaa", sum := "2ed39438598877f05b7aa6452b8e66cb66f1f6089e04f1d841b75a6e64f588af", func := "casemate/casematelaw12.FlowsBoth", spec := "flowsBoth", unfollowed := true, recurses := true, apart := false }
def FlowsBothSaid : Prop := flowsBothRow.holds Try.pinned (OpenSpec.ofChange flowsBothSpec)

/-- ITS FALSE NEIGHBOUR: 'it returns false'. Refute it at one input. -/
def flowsBothWrong : ChangeSpec := { name := "flowsBoth", fn := fun _ => fun
  | [d1, d2] => { results := [.lit (.bool false)], args := [d1, d2] }
  | _ => none }
def FlowsBothWrongFalsely : Prop := flowsBothRow.holds Try.pinned (OpenSpec.ofChange flowsBothWrong)

/- THE SECOND FORM. 'bulk': how many values and letters a reading holds, each counted each time it is reached (what is shared counts as often as it is met; a slice's spare places count too). A statement '..UptoSaid' is the law's where the arguments, and the package variables that the reading takes, are together of bulk at most 1048576: NARROWER than '..Said'. Prove '..Said' where nothing that the law and all that it calls make is longer than what came in: it says more and counts as full. Else prove '..UptoSaid'. A law counts once. -/
mutual
def uptoBulk {H : Type} : DataW H → Nat
  | .lit (.string bytes) => bytes.length + 1
  | .lit _ => 1
  | .nil => 1
  | .ptr d => uptoBulk d + 1
  | .slice elems spare => uptoBulkAll elems + uptoBulkAll spare + 1
  | .agg parts => uptoBulkAll parts + 1
  | .iface _ d => uptoBulk d + 1
  | .map entries => uptoBulkEntries entries + 1
  | .held _ => 1
def uptoBulkAll {H : Type} : List (DataW H) → Nat
  | [] => 0
  | d :: r => uptoBulk d + uptoBulkAll r
def uptoBulkEntries {H : Type} : List (Lit × DataW H) → Nat
  | [] => 0
  | x :: r => uptoBulkEntry x + uptoBulkEntries r
def uptoBulkEntry {H : Type} : Lit × DataW H → Nat
  | (.string bytes, d) => bytes.length + uptoBulk d + 1
  | (_, d) => uptoBulk d + 1
 end
def uptoSmall : (H : Type) → List (DataW H) → Bool := fun _ ds => decide (uptoBulkAll ds ≤ 1048576)
def OpenSpec.upto (s : _root_.Go.ChangeSpec) : _root_.Go.OpenSpec := { _root_.Go.OpenSpec.ofChange s with cond := some uptoSmall }

/-- 'casematelaw12.FlowsLeast', WHERE WHAT IT READS IS OF BULK AT MOST 1048576: true; the input reads as it did. -/
def flowsLeastUptoRow : OpenClaim := { program := "ytdboehogkmidbaa", sum := "2ed39438598877f05b7aa6452b8e66cb66f1f6089e04f1d841b75a6e64f588af", func := "casemate/casematelaw12.FlowsLeast", spec := "flowsLeast", unfollowed := true, recurses := true, apart := false, narrowed := true }
def FlowsLeastUptoSaid : Prop := flowsLeastUptoRow.holds Try.pinned (OpenSpec.upto flowsLeastSpec)

/-- 'casematelaw12.FlowsBoth', WHERE WHAT IT READS IS OF BULK AT MOST 1048576: true; the input reads as it did. -/
def flowsBothUptoRow : OpenClaim := { program := "ytdboehogkmidbaa", sum := "2ed39438598877f05b7aa6452b8e66cb66f1f6089e04f1d841b75a6e64f588af", func := "casemate/casematelaw12.FlowsBoth", spec := "flowsBoth", unfollowed := true, recurses := true, apart := false, narrowed := true }
def FlowsBothUptoSaid : Prop := flowsBothUptoRow.holds Try.pinned (OpenSpec.upto flowsBothSpec)

end Rows
end Go.Proofs.Ytdboehogkmidbaa
