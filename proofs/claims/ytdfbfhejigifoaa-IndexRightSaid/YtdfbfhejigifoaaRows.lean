/-
  No cell of these rows narrows 'for every input' (looked for: loops, veiled, ifaces, maps, wideKeys, modest, calm, conditions, laid).
  DERIVED. THE GIVEN ROWS OF THIS SEAT. 4 by the template 'for every input the law returns true; each argument reads behind the call as it read before'; 0 by the template 'total and deterministic' (their statements: YtdfbfhejigifoaaTotals.lean).
  GIVEN WITH THE SEED: the statements are not yours to turn. If you find one false, say at which input.
  Laid BY PROGRAM, IN A SANDBOX (cutbox-rows.mjs): the forced cells as the released guide's own fill.sh prints them over the translation e6678a25fad9f057… (all of the seat's roots in one cut). By AI agents, Wed Nov 11 2026. No macro, syntax, notation, axiom, sorry.
-/
import Derived.Test.YtdfbfhejigifoaaChecked
import GoSem.Claim
import GoSem.ClaimJoined
import GoSem.ClaimMapViews
import Derived.JoinedTies
import Derived.KernelRfl
namespace Go.Proofs.Ytdfbfhejigifoaa
/- THE CELL 'sum', in the pinned program and in every row, IS THE sha256 OF THE DUMP (.gsa) THAT YtdfbfhejigifoaaProg.lean LOADS. Nothing in Lean hashes anything: it is a label: what it is worth is what the hold of that sum in a sandbox is worth. -/
noncomputable def Try.pinned : Pinned := { name := "ytdfbfhejigifoaa", sum := "e6678a25fad9f05720a7cf16a373f4e892ed270a517b648f095e5040a43d64fe", checked := Try.checked }
namespace Rows
def none {H : Type} : Left H := { results := [], args := [] }

/-- 'casematelaw10.IndexRight': WHATEVER THE INPUT: true; the input reads as it did. -/
def indexRightSpec : ChangeSpec := { name := "indexRight", fn := fun _ => fun
  | [d1, d2, d3, d4] => { results := [.lit (.bool true)], args := [d1, d2, d3, d4] }
  | _ => none }
def indexRightRow : OpenClaim := { program := "ytdfbfhejigifoaa", sum := "e6678a25fad9f05720a7cf16a373f4e892ed270a517b648f095e5040a43d64fe", func := "casemate/casematelaw10.IndexRight", spec := "indexRight", apart := false }
def IndexRightSaid : Prop := indexRightRow.holds Try.pinned (OpenSpec.ofChange indexRightSpec)

/-- ITS FALSE NEIGHBOUR: 'it returns false'. Refute it at one input. -/
def indexRightWrong : ChangeSpec := { name := "indexRight", fn := fun _ => fun
  | [d1, d2, d3, d4] => { results := [.lit (.bool false)], args := [d1, d2, d3, d4] }
  | _ => none }
def IndexRightWrongFalsely : Prop := indexRightRow.holds Try.pinned (OpenSpec.ofChange indexRightWrong)

/-- 'casematelaw10.IndexMap': WHATEVER THE INPUT: true; the input reads as it did. -/
def indexMapSpec : ChangeSpec := { name := "indexMap", fn := fun _ => fun
  | [d1, d2] => { results := [.lit (.bool true)], args := [d1, d2] }
  | _ => none }
def indexMapRow : OpenClaim := { program := "ytdfbfhejigifoaa", sum := "e6678a25fad9f05720a7cf16a373f4e892ed270a517b648f095e5040a43d64fe", func := "casemate/casematelaw10.IndexMap", spec := "indexMap", apart := false }
def IndexMapSaid : Prop := indexMapRow.holds Try.pinned (OpenSpec.ofChange indexMapSpec)

/-- ITS FALSE NEIGHBOUR: 'it returns false'. Refute it at one input. -/
def indexMapWrong : ChangeSpec := { name := "indexMap", fn := fun _ => fun
  | [d1, d2] => { results := [.lit (.bool false)], args := [d1, d2] }
  | _ => none }
def IndexMapWrongFalsely : Prop := indexMapRow.holds Try.pinned (OpenSpec.ofChange indexMapWrong)

/-- 'casematelaw10.IndexBack': WHATEVER THE INPUT: true; the input reads as it did. -/
def indexBackSpec : ChangeSpec := { name := "indexBack", fn := fun _ => fun
  | [d1, d2, d3] => { results := [.lit (.bool true)], args := [d1, d2, d3] }
  | _ => none }
def indexBackRow : OpenClaim := { program := "ytdfbfhejigifoaa", sum := "e6678a25fad9f05720a7cf16a373f4e892ed270a517b648f095e5040a43d64fe", func := "casemate/casematelaw10.IndexBack", spec := "indexBack", apart := false }
def IndexBackSaid : Prop := indexBackRow.holds Try.pinned (OpenSpec.ofChange indexBackSpec)

/-- ITS FALSE NEIGHBOUR: 'it returns false'. Refute it at one input. -/
def indexBackWrong : ChangeSpec := { name := "indexBack", fn := fun _ => fun
  | [d1, d2, d3] => { results := [.lit (.bool false)], args := [d1, d2, d3] }
  | _ => none }
def IndexBackWrongFalsely : Prop := indexBackRow.holds Try.pinned (OpenSpec.ofChange indexBackWrong)

/-- 'casematelaw10.IndexFull': WHATEVER THE INPUT: true; the input reads as it did. -/
def indexFullSpec : ChangeSpec := { name := "indexFull", fn := fun _ => fun
  | [d1, d2, d3] => { results := [.lit (.bool true)], args := [d1, d2, d3] }
  | _ => none }
def indexFullRow : OpenClaim := { program := "ytdfbfhejigifoaa", sum := "e6678a25fad9f05720a7cf16a373f4e892ed270a517b648f095e5040a43d64fe", func := "casemate/casematelaw10.IndexFull", spec := "indexFull", apart := false }
def IndexFullSaid : Prop := indexFullRow.holds Try.pinned (OpenSpec.ofChange indexFullSpec)

/-- ITS FALSE NEIGHBOUR: 'it returns false'. Refute it at one input. -/
def indexFullWrong : ChangeSpec := { name := "indexFull", fn := fun _ => fun
  | [d1, d2, d3] => { results := [.lit (.bool false)], args := [d1, d2, d3] }
  | _ => none }
def IndexFullWrongFalsely : Prop := indexFullRow.holds Try.pinned (OpenSpec.ofChange indexFullWrong)

/- THE SECOND FORM. 'bulk': how many values and letters a reading holds, each counted each time it is reached (what is shared counts as often as it is met; a slice's spare places count too). A statement '..UptoSaid' is the law's where the arguments, and the package variables that the reading takes, are together of bulk at most 1048576: NARROWER than '..Said'. Prove '..Said' where nothing that the law and all that it calls make is longer than what came in: it says more and counts as full. Else prove '..UptoSaid'. A law counts once. -/
mutual
def uptoBulk {H : Type} : DataW H → Nat
  | .lit (.string bytes) => bytes.length + 1
  | .lit _ => 1
  | .nil => 1
  | .ptr d => uptoBulk d + 1
  | .slice elems spare => uptoBulkAll elems + uptoBulkAll spare + 1
  | .agg parts => uptoBulkAll parts + 1
  | .iface _ d => uptoBulk d + 1
  | .map entries => uptoBulkEntries entries + 1
  | .held _ => 1
def uptoBulkAll {H : Type} : List (DataW H) → Nat
  | [] => 0
  | d :: r => uptoBulk d + uptoBulkAll r
def uptoBulkEntries {H : Type} : List (Lit × DataW H) → Nat
  | [] => 0
  | x :: r => uptoBulkEntry x + uptoBulkEntries r
def uptoBulkEntry {H : Type} : Lit × DataW H → Nat
  | (.string bytes, d) => bytes.length + uptoBulk d + 1
  | (_, d) => uptoBulk d + 1
 end
def uptoSmall : (H : Type) → List (DataW H) → Bool := fun _ ds => decide (uptoBulkAll ds ≤ 1048576)
def OpenSpec.upto (s : _root_.Go.ChangeSpec) : _root_.Go.OpenSpec := { _root_.Go.OpenSpec.ofChange s with cond := some uptoSmall }

/-- 'casematelaw10.IndexRight', WHERE WHAT IT READS IS OF BULK AT MOST 1048576: true; the input reads as it did. -/
def indexRightUptoRow : OpenClaim := { program := "ytdfbfhejigifoaa", sum := "e6678a25fad9f05720a7cf16a373f4e892ed270a517b648f095e5040a43d64fe", func := "casemate/casematelaw10.IndexRight", spec := "indexRight", apart := false, narrowed := true }
def IndexRightUptoSaid : Prop := indexRightUptoRow.holds Try.pinned (OpenSpec.upto indexRightSpec)

/-- 'casematelaw10.IndexMap', WHERE WHAT IT READS IS OF BULK AT MOST 1048576: true; the input reads as it did. -/
def indexMapUptoRow : OpenClaim := { program := "ytdfbfhejigifoaa", sum := "e6678a25fad9f05720a7cf16a373f4e892ed270a517b648f095e5040a43d64fe", func := "casemate/casematelaw10.IndexMap", spec := "indexMap", apart := false, narrowed := true }
def IndexMapUptoSaid : Prop := indexMapUptoRow.holds Try.pinned (OpenSpec.upto indexMapSpec)

/-- 'casematelaw10.IndexBack', WHERE WHAT IT READS IS OF BULK AT MOST 1048576: true; the input reads as it did. -/
def indexBackUptoRow : OpenClaim := { program := "ytdfbfhejigifoaa", sum := "e6678a25fad9f05720a7cf16a373f4e892ed270a517b648f095e5040a43d64fe", func := "casemate/casematelaw10.IndexBack", spec := "indexBack", apart := false, narrowed := true }
def IndexBackUptoSaid : Prop := indexBackUptoRow.holds Try.pinned (OpenSpec.upto indexBackSpec)

/-- 'casematelaw10.IndexFull', WHERE WHAT IT READS IS OF BULK AT MOST 1048576: true; the input reads as it did. -/
def indexFullUptoRow : OpenClaim := { program := "ytdfbfhejigifoaa", sum := "e6678a25fad9f05720a7cf16a373f4e892ed270a517b648f095e5040a43d64fe", func := "casemate/casematelaw10.IndexFull", spec := "indexFull", apart := false, narrowed := true }
def IndexFullUptoSaid : Prop := indexFullUptoRow.holds Try.pinned (OpenSpec.upto indexFullSpec)

end Rows
end Go.Proofs.Ytdfbfhejigifoaa
