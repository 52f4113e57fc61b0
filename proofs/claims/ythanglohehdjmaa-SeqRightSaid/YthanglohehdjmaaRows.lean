/-
  No cell of these rows narrows 'for every input' (looked for: loops, veiled, ifaces, maps, wideKeys, modest, calm, conditions, laid).
  DERIVED. THE GIVEN ROWS OF THIS SEAT. 5 by the template 'for every input the law returns true; each argument reads behind the call as it read before'; 0 by the template 'total and deterministic' (their statements: YthanglohehdjmaaTotals.lean).
  GIVEN WITH THE SEED: the statements are not yours to turn. If you find one false, say at which input.
  Laid BY PROGRAM, IN A SANDBOX (cutbox-rows.mjs): the forced cells as the released guide's own fill.sh prints them over the translation e94af26be2736e02… (all of the seat's roots in one cut). By AI agents, Wed Nov 11 2026. No macro, syntax, notation, axiom, sorry.
-/
import Derived.Test.YthanglohehdjmaaChecked
import GoSem.Claim
import GoSem.ClaimJoined
import GoSem.ClaimMapViews
import Derived.JoinedTies
import Derived.KernelRfl
namespace Go.Proofs.Ythanglohehdjmaa
/- THE CELL 'sum', in the pinned program and in every row, IS THE sha256 OF THE DUMP (.gsa) THAT YthanglohehdjmaaProg.lean LOADS. Nothing in Lean hashes anything: it is a label: what it is worth is what the hold of that sum in a sandbox is worth. -/
noncomputable def Try.pinned : Pinned := { name := "ythanglohehdjmaa", sum := "e94af26be2736e02e25b79fa3601dfa0465e9e5f5c21d23f40256f42b965531e", checked := Try.checked }
namespace Rows
def none {H : Type} : Left H := { results := [], args := [] }

/-- 'casematelaw01.SeqBack': WHATEVER THE INPUT: true; the input reads as it did. -/
def seqBackSpec : ChangeSpec := { name := "seqBack", fn := fun _ => fun
  | [d1, d2, d3] => { results := [.lit (.bool true)], args := [d1, d2, d3] }
  | _ => none }
def seqBackRow : OpenClaim := { program := "ythanglohehdjmaa", sum := "e94af26be2736e02e25b79fa3601dfa0465e9e5f5c21d23f40256f42b965531e", func := "casemate/casematelaw01.SeqBack", spec := "seqBack", apart := false }
def SeqBackSaid : Prop := seqBackRow.holds Try.pinned (OpenSpec.ofChange seqBackSpec)

/-- ITS FALSE NEIGHBOUR: 'it returns false'. Refute it at one input. -/
def seqBackWrong : ChangeSpec := { name := "seqBack", fn := fun _ => fun
  | [d1, d2, d3] => { results := [.lit (.bool false)], args := [d1, d2, d3] }
  | _ => none }
def SeqBackWrongFalsely : Prop := seqBackRow.holds Try.pinned (OpenSpec.ofChange seqBackWrong)

/-- 'casematelaw01.SeqRight': WHATEVER THE INPUT: true; the input reads as it did. -/
def seqRightSpec : ChangeSpec := { name := "seqRight", fn := fun _ => fun
  | [d1, d2, d3, d4] => { results := [.lit (.bool true)], args := [d1, d2, d3, d4] }
  | _ => none }
def seqRightRow : OpenClaim := { program := "ythanglohehdjmaa", sum := "e94af26be2736e02e25b79fa3601dfa0465e9e5f5c21d23f40256f42b965531e", func := "casemate/casematelaw01.SeqRight", spec := "seqRight", apart := false }
def SeqRightSaid : Prop := seqRightRow.holds Try.pinned (OpenSpec.ofChange seqRightSpec)

/-- ITS FALSE NEIGHBOUR: 'it returns false'. Refute it at one input. -/
def seqRightWrong : ChangeSpec := { name := "seqRight", fn := fun _ => fun
  | [d1, d2, d3, d4] => { results := [.lit (.bool false)], args := [d1, d2, d3, d4] }
  | _ => none }
def SeqRightWrongFalsely : Prop := seqRightRow.holds Try.pinned (OpenSpec.ofChange seqRightWrong)

/-- 'casematelaw01.SeqTurns': WHATEVER THE INPUT: true; the input reads as it did. -/
def seqTurnsSpec : ChangeSpec := { name := "seqTurns", fn := fun _ => fun
  | [d1, d2, d3, d4] => { results := [.lit (.bool true)], args := [d1, d2, d3, d4] }
  | _ => none }
def seqTurnsRow : OpenClaim := { program := "ythanglohehdjmaa", sum := "e94af26be2736e02e25b79fa3601dfa0465e9e5f5c21d23f40256f42b965531e", func := "casemate/casematelaw01.SeqTurns", spec := "seqTurns", apart := false }
def SeqTurnsSaid : Prop := seqTurnsRow.holds Try.pinned (OpenSpec.ofChange seqTurnsSpec)

/-- ITS FALSE NEIGHBOUR: 'it returns false'. Refute it at one input. -/
def seqTurnsWrong : ChangeSpec := { name := "seqTurns", fn := fun _ => fun
  | [d1, d2, d3, d4] => { results := [.lit (.bool false)], args := [d1, d2, d3, d4] }
  | _ => none }
def SeqTurnsWrongFalsely : Prop := seqTurnsRow.holds Try.pinned (OpenSpec.ofChange seqTurnsWrong)

/-- 'casematelaw01.SeqOrder': WHATEVER THE INPUT: true; the input reads as it did. -/
def seqOrderSpec : ChangeSpec := { name := "seqOrder", fn := fun _ => fun
  | [d1, d2, d3] => { results := [.lit (.bool true)], args := [d1, d2, d3] }
  | _ => none }
def seqOrderRow : OpenClaim := { program := "ythanglohehdjmaa", sum := "e94af26be2736e02e25b79fa3601dfa0465e9e5f5c21d23f40256f42b965531e", func := "casemate/casematelaw01.SeqOrder", spec := "seqOrder", apart := false }
def SeqOrderSaid : Prop := seqOrderRow.holds Try.pinned (OpenSpec.ofChange seqOrderSpec)

/-- ITS FALSE NEIGHBOUR: 'it returns false'. Refute it at one input. -/
def seqOrderWrong : ChangeSpec := { name := "seqOrder", fn := fun _ => fun
  | [d1, d2, d3] => { results := [.lit (.bool false)], args := [d1, d2, d3] }
  | _ => none }
def SeqOrderWrongFalsely : Prop := seqOrderRow.holds Try.pinned (OpenSpec.ofChange seqOrderWrong)

/-- 'casematelaw01.SeqSteps': WHATEVER THE INPUT: true; the input reads as it did. -/
def seqStepsSpec : ChangeSpec := { name := "seqSteps", fn := fun _ => fun
  | [d1, d2, d3, d4] => { results := [.lit (.bool true)], args := [d1, d2, d3, d4] }
  | _ => none }
def seqStepsRow : OpenClaim := { program := "ythanglohehdjmaa", sum := "e94af26be2736e02e25b79fa3601dfa0465e9e5f5c21d23f40256f42b965531e", func := "casemate/casematelaw01.SeqSteps", spec := "seqSteps", apart := false }
def SeqStepsSaid : Prop := seqStepsRow.holds Try.pinned (OpenSpec.ofChange seqStepsSpec)

/-- ITS FALSE NEIGHBOUR: 'it returns false'. Refute it at one input. -/
def seqStepsWrong : ChangeSpec := { name := "seqSteps", fn := fun _ => fun
  | [d1, d2, d3, d4] => { results := [.lit (.bool false)], args := [d1, d2, d3, d4] }
  | _ => none }
def SeqStepsWrongFalsely : Prop := seqStepsRow.holds Try.pinned (OpenSpec.ofChange seqStepsWrong)

/- THE SECOND FORM. 'bulk': how many values and letters a reading holds, each counted each time it is reached (what is shared counts as often as it is met; a slice's spare places count too). A statement '..UptoSaid' is the law's where the arguments, and the package variables that the reading takes, are together of bulk at most 1048576: NARROWER than '..Said'. Prove '..Said' where nothing that the law and all that it calls make is longer than what came in: it says more and counts as full. Else prove '..UptoSaid'. A law counts once. -/
mutual
def uptoBulk {H : Type} : DataW H → Nat
  | .lit (.string bytes) => bytes.length + 1
  | .lit _ => 1
  | .nil => 1
  | .ptr d => uptoBulk d + 1
  | .slice elems spare => uptoBulkAll elems + uptoBulkAll spare + 1
  | .agg parts => uptoBulkAll parts + 1
  | .iface _ d => uptoBulk d + 1
  | .map entries => uptoBulkEntries entries + 1
  | .held _ => 1
def uptoBulkAll {H : Type} : List (DataW H) → Nat
  | [] => 0
  | d :: r => uptoBulk d + uptoBulkAll r
def uptoBulkEntries {H : Type} : List (Lit × DataW H) → Nat
  | [] => 0
  | x :: r => uptoBulkEntry x + uptoBulkEntries r
def uptoBulkEntry {H : Type} : Lit × DataW H → Nat
  | (.string bytes, d) => bytes.length + uptoBulk d + 1
  | (_, d) => uptoBulk d + 1
 end
def uptoSmall : (H : Type) → List (DataW H) → Bool := fun _ ds => decide (uptoBulkAll ds ≤ 1048576)
def OpenSpec.upto (s : _root_.Go.ChangeSpec) : _root_.Go.OpenSpec := { _root_.Go.OpenSpec.ofChange s with cond := some uptoSmall }

/-- 'casematelaw01.SeqBack', WHERE WHAT IT READS IS OF BULK AT MOST 1048576: true; the input reads as it did. -/
def seqBackUptoRow : OpenClaim := { program := "ythanglohehdjmaa", sum := "e94af26be2736e02e25b79fa3601dfa0465e9e5f5c21d23f40256f42b965531e", func := "casemate/casematelaw01.SeqBack", spec := "seqBack", apart := false, narrowed := true }
def SeqBackUptoSaid : Prop := seqBackUptoRow.holds Try.pinned (OpenSpec.upto seqBackSpec)

/-- 'casematelaw01.SeqRight', WHERE WHAT IT READS IS OF BULK AT MOST 1048576: true; the input reads as it did. -/
def seqRightUptoRow : OpenClaim := { program := "ythanglohehdjmaa", sum := "e94af26be2736e02e25b79fa3601dfa0465e9e5f5c21d23f40256f42b965531e", func := "casemate/casematelaw01.SeqRight", spec := "seqRight", apart := false, narrowed := true }
def SeqRightUptoSaid : Prop := seqRightUptoRow.holds Try.pinned (OpenSpec.upto seqRightSpec)

/-- 'casematelaw01.SeqTurns', WHERE WHAT IT READS IS OF BULK AT MOST 1048576: true; the input reads as it did. -/
def seqTurnsUptoRow : OpenClaim := { program := "ythanglohehdjmaa", sum := "e94af26be2736e02e25b79fa3601dfa0465e9e5f5c21d23f40256f42b965531e", func := "casemate/casematelaw01.SeqTurns", spec := "seqTurns", apart := false, narrowed := true }
def SeqTurnsUptoSaid : Prop := seqTurnsUptoRow.holds Try.pinned (OpenSpec.upto seqTurnsSpec)

/-- 'casematelaw01.SeqOrder', WHERE WHAT IT READS IS OF BULK AT MOST 1048576: true; the input reads as it did. -/
def seqOrderUptoRow : OpenClaim := { program := "ythanglohehdjmaa", sum := "e94af26be2736e02e25b79fa3601dfa0465e9e5f5c21d23f40256f42b965531e", func := "casemate/casematelaw01.SeqOrder", spec := "seqOrder", apart := false, narrowed := true }
def SeqOrderUptoSaid : Prop := seqOrderUptoRow.holds Try.pinned (OpenSpec.upto seqOrderSpec)

/-- 'casematelaw01.SeqSteps', WHERE WHAT IT READS IS OF BULK AT MOST 1048576: true; the input reads as it did. -/
def seqStepsUptoRow : OpenClaim := { program := "ythanglohehdjmaa", sum := "e94af26be2736e02e25b79fa3601dfa0465e9e5f5c21d23f40256f42b965531e", func := "casemate/casematelaw01.SeqSteps", spec := "seqSteps", apart := false, narrowed := true }
def SeqStepsUptoSaid : Prop := seqStepsUptoRow.holds Try.pinned (OpenSpec.upto seqStepsSpec)

end Rows
end Go.Proofs.Ythanglohehdjmaa
