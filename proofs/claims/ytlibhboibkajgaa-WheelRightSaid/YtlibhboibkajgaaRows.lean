/-
  No cell of these rows narrows 'for every input' (looked for: loops, veiled, ifaces, maps, wideKeys, modest, calm, conditions, laid).
  DERIVED. THE GIVEN ROWS OF THIS SEAT. 4 by the template 'for every input the law returns true; each argument reads behind the call as it read before'; 0 by the template 'total and deterministic' (their statements: YtlibhboibkajgaaTotals.lean).
  GIVEN WITH THE SEED: the statements are not yours to turn. If you find one false, say at which input.
  Laid BY PROGRAM, IN A SANDBOX (cutbox-rows.mjs): the forced cells as the released guide's own fill.sh prints them over the translation 0d30cbb1f18679f5… (all of the seat's roots in one cut). By AI agents, Wed Nov 11 2026. No macro, syntax, notation, axiom, sorry.
-/
import Derived.Test.YtlibhboibkajgaaChecked
import GoSem.Claim
import GoSem.ClaimJoined
import GoSem.ClaimMapViews
import Derived.JoinedTies
import Derived.KernelRfl
namespace Go.Proofs.Ytlibhboibkajgaa
/- THE CELL 'sum', in the pinned program and in every row, IS THE sha256 OF THE DUMP (.gsa) THAT YtlibhboibkajgaaProg.lean LOADS. Nothing in Lean hashes anything: it is a label: what it is worth is what the hold of that sum in a sandbox is worth. -/
noncomputable def Try.pinned : Pinned := { name := "ytlibhboibkajgaa", sum := "0d30cbb1f18679f55145e151a2514f65283e32d0e90a5956d69d135191c5bf8f", checked := Try.checked }
namespace Rows
def none {H : Type} : Left H := { results := [], args := [] }

/-- 'casematelaw11.WheelTwo': WHATEVER THE INPUT: true; the input reads as it did. -/
def wheelTwoSpec : ChangeSpec := { name := "wheelTwo", fn := fun _ => fun
  | [d1, d2, d3, d4, d5] => { results := [.lit (.bool true)], args := [d1, d2, d3, d4, d5] }
  | _ => none }
def wheelTwoRow : OpenClaim := { program := "ytlibhboibkajgaa", sum := "0d30cbb1f18679f55145e151a2514f65283e32d0e90a5956d69d135191c5bf8f", func := "casemate/casematelaw11.WheelTwo", spec := "wheelTwo", unfollowed := true, recurses := true, apart := false }
def WheelTwoSaid : Prop := wheelTwoRow.holds Try.pinned (OpenSpec.ofChange wheelTwoSpec)

/-- ITS FALSE NEIGHBOUR: 'it returns false'. Refute it at one input. -/
def wheelTwoWrong : ChangeSpec := { name := "wheelTwo", fn := fun _ => fun
  | [d1, d2, d3, d4, d5] => { results := [.lit (.bool false)], args := [d1, d2, d3, d4, d5] }
  | _ => none }
def WheelTwoWrongFalsely : Prop := wheelTwoRow.holds Try.pinned (OpenSpec.ofChange wheelTwoWrong)

/-- 'casematelaw11.WheelDue': WHATEVER THE INPUT: true; the input reads as it did. -/
def wheelDueSpec : ChangeSpec := { name := "wheelDue", fn := fun _ => fun
  | [d1, d2] => { results := [.lit (.bool true)], args := [d1, d2] }
  | _ => none }
def wheelDueRow : OpenClaim := { program := "ytlibhboibkajgaa", sum := "0d30cbb1f18679f55145e151a2514f65283e32d0e90a5956d69d135191c5bf8f", func := "casemate/casematelaw11.WheelDue", spec := "wheelDue", unfollowed := true, recurses := true, apart := false }
def WheelDueSaid : Prop := wheelDueRow.holds Try.pinned (OpenSpec.ofChange wheelDueSpec)

/-- ITS FALSE NEIGHBOUR: 'it returns false'. Refute it at one input. -/
def wheelDueWrong : ChangeSpec := { name := "wheelDue", fn := fun _ => fun
  | [d1, d2] => { results := [.lit (.bool false)], args := [d1, d2] }
  | _ => none }
def WheelDueWrongFalsely : Prop := wheelDueRow.holds Try.pinned (OpenSpec.ofChange wheelDueWrong)

/-- 'casematelaw11.WheelDrops': WHATEVER THE INPUT: true; the input reads as it did. -/
def wheelDropsSpec : ChangeSpec := { name := "wheelDrops", fn := fun _ => fun
  | [d1, d2] => { results := [.lit (.bool true)], args := [d1, d2] }
  | _ => none }
def wheelDropsRow : OpenClaim := { program := "ytlibhboibkajgaa", sum := "0d30cbb1f18679f55145e151a2514f65283e32d0e90a5956d69d135191c5bf8f", func := "casemate/casematelaw11.WheelDrops", spec := "wheelDrops", unfollowed := true, recurses := true, apart := false }
def WheelDropsSaid : Prop := wheelDropsRow.holds Try.pinned (OpenSpec.ofChange wheelDropsSpec)

/-- ITS FALSE NEIGHBOUR: 'it returns false'. Refute it at one input. -/
def wheelDropsWrong : ChangeSpec := { name := "wheelDrops", fn := fun _ => fun
  | [d1, d2] => { results := [.lit (.bool false)], args := [d1, d2] }
  | _ => none }
def WheelDropsWrongFalsely : Prop := wheelDropsRow.holds Try.pinned (OpenSpec.ofChange wheelDropsWrong)

/-- 'casematelaw11.WheelRight': WHATEVER THE INPUT: true; the input reads as it did. -/
def wheelRightSpec : ChangeSpec := { name := "wheelRight", fn := fun _ => fun
  | [d] => { results := [.lit (.bool true)], args := [d] }
  | _ => none }
def wheelRightRow : OpenClaim := { program := "ytlibhboibkajgaa", sum := "0d30cbb1f18679f55145e151a2514f65283e32d0e90a5956d69d135191c5bf8f", func := "casemate/casematelaw11.WheelRight", spec := "wheelRight", unfollowed := true, recurses := true, apart := false }
def WheelRightSaid : Prop := wheelRightRow.holds Try.pinned (OpenSpec.ofChange wheelRightSpec)

/-- ITS FALSE NEIGHBOUR: 'it returns false'. Refute it at one input. -/
def wheelRightWrong : ChangeSpec := { name := "wheelRight", fn := fun _ => fun
  | [d] => { results := [.lit (.bool false)], args := [d] }
  | _ => none }
def WheelRightWrongFalsely : Prop := wheelRightRow.holds Try.pinned (OpenSpec.ofChange wheelRightWrong)

/- THE SECOND FORM. 'bulk': how many values and letters a reading holds, each counted each time it is reached (what is shared counts as often as it is met; a slice's spare places count too). A statement '..UptoSaid' is the law's where the arguments, and the package variables that the reading takes, are together of bulk at most 1048576: NARROWER than '..Said'. Prove '..Said' where nothing that the law and all that it calls make is longer than what came in: it says more and counts as full. Else prove '..UptoSaid'. A law counts once. -/
mutual
def uptoBulk {H : Type} : DataW H → Nat
  | .lit (.string bytes) => bytes.length + 1
  | .lit _ => 1
  | .nil => 1
  | .ptr d => uptoBulk d + 1
  | .slice elems spare => uptoBulkAll elems + uptoBulkAll spare + 1
  | .agg parts => uptoBulkAll parts + 1
  | .iface _ d => uptoBulk d + 1
  | .map entries => uptoBulkEntries entries + 1
  | .held _ => 1
def uptoBulkAll {H : Type} : List (DataW H) → Nat
  | [] => 0
  | d :: r => uptoBulk d + uptoBulkAll r
def uptoBulkEntries {H : Type} : List (Lit × DataW H) → Nat
  | [] => 0
  | x :: r => uptoBulkEntry x + uptoBulkEntries r
def uptoBulkEntry {H : Type} : Lit × DataW H → Nat
  | (.string bytes, d) => bytes.length + uptoBulk d + 1
  | (_, d) => uptoBulk d + 1
 end
def uptoSmall : (H : Type) → List (DataW H) → Bool := fun _ ds => decide (uptoBulkAll ds ≤ 1048576)
def OpenSpec.upto (s : _root_.Go.ChangeSpec) : _root_.Go.OpenSpec := { _root_.Go.OpenSpec.ofChange s with cond := some uptoSmall }

/-- 'casematelaw11.WheelTwo', WHERE WHAT IT READS IS OF BULK AT MOST 1048576: true; the input reads as it did. -/
def wheelTwoUptoRow : OpenClaim := { program := "ytlibhboibkajgaa", sum := "0d30cbb1f18679f55145e151a2514f65283e32d0e90a5956d69d135191c5bf8f", func := "casemate/casematelaw11.WheelTwo", spec := "wheelTwo", unfollowed := true, recurses := true, apart := false, narrowed := true }
def WheelTwoUptoSaid : Prop := wheelTwoUptoRow.holds Try.pinned (OpenSpec.upto wheelTwoSpec)

/-- 'casematelaw11.WheelDue', WHERE WHAT IT READS IS OF BULK AT MOST 1048576: true; the input reads as it did. -/
def wheelDueUptoRow : OpenClaim := { program := "ytlibhboibkajgaa", sum := "0d30cbb1f18679f55145e151a2514f65283e32d0e90a5956d69d135191c5bf8f", func := "casemate/casematelaw11.WheelDue", spec := "wheelDue", unfollowed := true, recurses := true, apart := false, narrowed := true }
def WheelDueUptoSaid : Prop := wheelDueUptoRow.holds Try.pinned (OpenSpec.upto wheelDueSpec)

/-- 'casematelaw11.WheelDrops', WHERE WHAT IT READS IS OF BULK AT MOST 1048576: true; the input reads as it did. -/
def wheelDropsUptoRow : OpenClaim := { program := "ytlibhboibkajgaa", sum := "0d30cbb1f18679f55145e151a2514f65283e32d0e90a5956d69d135191c5bf8f", func := "casemate/casematelaw11.WheelDrops", spec := "wheelDrops", unfollowed := true, recurses := true, apart := false, narrowed := true }
def WheelDropsUptoSaid : Prop := wheelDropsUptoRow.holds Try.pinned (OpenSpec.upto wheelDropsSpec)

/-- 'casematelaw11.WheelRight', WHERE WHAT IT READS IS OF BULK AT MOST 1048576: true; the input reads as it did. -/
def wheelRightUptoRow : OpenClaim := { program := "ytlibhboibkajgaa", sum := "0d30cbb1f18679f55145e151a2514f65283e32d0e90a5956d69d135191c5bf8f", func := "casemate/casematelaw11.WheelRight", spec := "wheelRight", unfollowed := true, recurses := true, apart := false, narrowed := true }
def WheelRightUptoSaid : Prop := wheelRightUptoRow.holds Try.pinned (OpenSpec.upto wheelRightSpec)

end Rows
end Go.Proofs.Ytlibhboibkajgaa
