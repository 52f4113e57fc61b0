/-
  No cell of these rows narrows 'for every input' (looked for: loops, veiled, ifaces, maps, wideKeys, modest, calm, conditions, laid).
  DERIVED. THE GIVEN ROWS OF THIS SEAT. 7 by the template 'for every input the law returns true; each argument reads behind the call as it read before'; 0 by the template 'total and deterministic' (their statements: YtliibpajgdncpaaTotals.lean).
  GIVEN WITH THE SEED: the statements are not yours to turn. If you find one false, say at which input.
  Laid BY PROGRAM, IN A SANDBOX (cutbox-rows.mjs): the forced cells as the released guide's own fill.sh prints them over the translation 46f8b7be4032eefa… (all of the seat's roots in one cut). By AI agents, Wed Nov 11 2026. No macro, syntax, notation, axiom, sorry.
-/
import Derived.Test.YtliibpajgdncpaaChecked
import GoSem.Claim
import GoSem.ClaimJoined
import GoSem.ClaimMapViews
import Derived.JoinedTies
import Derived.KernelRfl
namespace Go.Proofs.Ytliibpajgdncpaa
/- THE CELL 'sum', in the pinned program and in every row, IS THE sha256 OF THE DUMP (.gsa) THAT YtliibpajgdncpaaProg.lean LOADS. Nothing in Lean hashes anything: it is a label: what it is worth is what the hold of that sum in a sandbox is worth. -/
noncomputable def Try.pinned : Pinned := { name := "ytliibpajgdncpaa", sum := "46f8b7be4032eefa8736986c5d7dbbc88ed17dd62e10d9ab54032ef7a1a2044d", checked := Try.checked }
namespace Rows
def none {H : Type} : Left H := { results := [], args := [] }

/-- 'casematelaw18.StateRight': WHATEVER THE INPUT: true; the input reads as it did. -/
def stateRightSpec : ChangeSpec := { name := "stateRight", fn := fun _ => fun
  | [d1, d2, d3, d4] => { results := [.lit (.bool true)], args := [d1, d2, d3, d4] }
  | _ => none }
def stateRightRow : OpenClaim := { program := "ytliibpajgdncpaa", sum := "46f8b7be4032eefa8736986c5d7dbbc88ed17dd62e10d9ab54032ef7a1a2044d", func := "casemate/casematelaw18.StateRight", spec := "stateRight", unfollowed := true, recurses := true, apart := false }
def StateRightSaid : Prop := stateRightRow.holds Try.pinned (OpenSpec.ofChange stateRightSpec)

/-- ITS FALSE NEIGHBOUR: 'it returns false'. Refute it at one input. -/
def stateRightWrong : ChangeSpec := { name := "stateRight", fn := fun _ => fun
  | [d1, d2, d3, d4] => { results := [.lit (.bool false)], args := [d1, d2, d3, d4] }
  | _ => none }
def StateRightWrongFalsely : Prop := stateRightRow.holds Try.pinned (OpenSpec.ofChange stateRightWrong)

/-- 'casematelaw18.StateEnds': WHATEVER THE INPUT: true; the input reads as it did. -/
def stateEndsSpec : ChangeSpec := { name := "stateEnds", fn := fun _ => fun
  | [d] => { results := [.lit (.bool true)], args := [d] }
  | _ => none }
def stateEndsRow : OpenClaim := { program := "ytliibpajgdncpaa", sum := "46f8b7be4032eefa8736986c5d7dbbc88ed17dd62e10d9ab54032ef7a1a2044d", func := "casemate/casematelaw18.StateEnds", spec := "stateEnds", unfollowed := true, recurses := true, apart := false }
def StateEndsSaid : Prop := stateEndsRow.holds Try.pinned (OpenSpec.ofChange stateEndsSpec)

/-- ITS FALSE NEIGHBOUR: 'it returns false'. Refute it at one input. -/
def stateEndsWrong : ChangeSpec := { name := "stateEnds", fn := fun _ => fun
  | [d] => { results := [.lit (.bool false)], args := [d] }
  | _ => none }
def StateEndsWrongFalsely : Prop := stateEndsRow.holds Try.pinned (OpenSpec.ofChange stateEndsWrong)

/-- 'casematelaw18.StateResets': WHATEVER THE INPUT: true; the input reads as it did. -/
def stateResetsSpec : ChangeSpec := { name := "stateResets", fn := fun _ => fun
  | [d1, d2, d3, d4] => { results := [.lit (.bool true)], args := [d1, d2, d3, d4] }
  | _ => none }
def stateResetsRow : OpenClaim := { program := "ytliibpajgdncpaa", sum := "46f8b7be4032eefa8736986c5d7dbbc88ed17dd62e10d9ab54032ef7a1a2044d", func := "casemate/casematelaw18.StateResets", spec := "stateResets", unfollowed := true, recurses := true, apart := false }
def StateResetsSaid : Prop := stateResetsRow.holds Try.pinned (OpenSpec.ofChange stateResetsSpec)

/-- ITS FALSE NEIGHBOUR: 'it returns false'. Refute it at one input. -/
def stateResetsWrong : ChangeSpec := { name := "stateResets", fn := fun _ => fun
  | [d1, d2, d3, d4] => { results := [.lit (.bool false)], args := [d1, d2, d3, d4] }
  | _ => none }
def StateResetsWrongFalsely : Prop := stateResetsRow.holds Try.pinned (OpenSpec.ofChange stateResetsWrong)

/-- 'casematelaw18.StateCloses': WHATEVER THE INPUT: true; the input reads as it did. -/
def stateClosesSpec : ChangeSpec := { name := "stateCloses", fn := fun _ => fun
  | [d1, d2, d3] => { results := [.lit (.bool true)], args := [d1, d2, d3] }
  | _ => none }
def stateClosesRow : OpenClaim := { program := "ytliibpajgdncpaa", sum := "46f8b7be4032eefa8736986c5d7dbbc88ed17dd62e10d9ab54032ef7a1a2044d", func := "casemate/casematelaw18.StateCloses", spec := "stateCloses", unfollowed := true, recurses := true, apart := false }
def StateClosesSaid : Prop := stateClosesRow.holds Try.pinned (OpenSpec.ofChange stateClosesSpec)

/-- ITS FALSE NEIGHBOUR: 'it returns false'. Refute it at one input. -/
def stateClosesWrong : ChangeSpec := { name := "stateCloses", fn := fun _ => fun
  | [d1, d2, d3] => { results := [.lit (.bool false)], args := [d1, d2, d3] }
  | _ => none }
def StateClosesWrongFalsely : Prop := stateClosesRow.holds Try.pinned (OpenSpec.ofChange stateClosesWrong)

/-- 'casematelaw19.WindowRises': WHATEVER THE INPUT: true; the input reads as it did. -/
def windowRisesSpec : ChangeSpec := { name := "windowRises", fn := fun _ => fun
  | [d1, d2, d3] => { results := [.lit (.bool true)], args := [d1, d2, d3] }
  | _ => none }
def windowRisesRow : OpenClaim := { program := "ytliibpajgdncpaa", sum := "46f8b7be4032eefa8736986c5d7dbbc88ed17dd62e10d9ab54032ef7a1a2044d", func := "casemate/casematelaw19.WindowRises", spec := "windowRises", unfollowed := true, recurses := true, apart := false }
def WindowRisesSaid : Prop := windowRisesRow.holds Try.pinned (OpenSpec.ofChange windowRisesSpec)

/-- ITS FALSE NEIGHBOUR: 'it returns false'. Refute it at one input. -/
def windowRisesWrong : ChangeSpec := { name := "windowRises", fn := fun _ => fun
  | [d1, d2, d3] => { results := [.lit (.bool false)], args := [d1, d2, d3] }
  | _ => none }
def WindowRisesWrongFalsely : Prop := windowRisesRow.holds Try.pinned (OpenSpec.ofChange windowRisesWrong)

/-- 'casematelaw19.WindowOpens': WHATEVER THE INPUT: true; the input reads as it did. -/
def windowOpensSpec : ChangeSpec := { name := "windowOpens", fn := fun _ => fun
  | [d1, d2, d3, d4, d5, d6, d7, d8] => { results := [.lit (.bool true)], args := [d1, d2, d3, d4, d5, d6, d7, d8] }
  | _ => none }
def windowOpensRow : OpenClaim := { program := "ytliibpajgdncpaa", sum := "46f8b7be4032eefa8736986c5d7dbbc88ed17dd62e10d9ab54032ef7a1a2044d", func := "casemate/casematelaw19.WindowOpens", spec := "windowOpens", unfollowed := true, recurses := true, apart := false }
def WindowOpensSaid : Prop := windowOpensRow.holds Try.pinned (OpenSpec.ofChange windowOpensSpec)

/-- ITS FALSE NEIGHBOUR: 'it returns false'. Refute it at one input. -/
def windowOpensWrong : ChangeSpec := { name := "windowOpens", fn := fun _ => fun
  | [d1, d2, d3, d4, d5, d6, d7, d8] => { results := [.lit (.bool false)], args := [d1, d2, d3, d4, d5, d6, d7, d8] }
  | _ => none }
def WindowOpensWrongFalsely : Prop := windowOpensRow.holds Try.pinned (OpenSpec.ofChange windowOpensWrong)

/-- 'casematelaw19.WindowTwice': WHATEVER THE INPUT: true; the input reads as it did. -/
def windowTwiceSpec : ChangeSpec := { name := "windowTwice", fn := fun _ => fun
  | [d1, d2, d3] => { results := [.lit (.bool true)], args := [d1, d2, d3] }
  | _ => none }
def windowTwiceRow : OpenClaim := { program := "ytliibpajgdncpaa", sum := "46f8b7be4032eefa8736986c5d7dbbc88ed17dd62e10d9ab54032ef7a1a2044d", func := "casemate/casematelaw19.WindowTwice", spec := "windowTwice", unfollowed := true, recurses := true, apart := false }
def WindowTwiceSaid : Prop := windowTwiceRow.holds Try.pinned (OpenSpec.ofChange windowTwiceSpec)

/-- ITS FALSE NEIGHBOUR: 'it returns false'. Refute it at one input. -/
def windowTwiceWrong : ChangeSpec := { name := "windowTwice", fn := fun _ => fun
  | [d1, d2, d3] => { results := [.lit (.bool false)], args := [d1, d2, d3] }
  | _ => none }
def WindowTwiceWrongFalsely : Prop := windowTwiceRow.holds Try.pinned (OpenSpec.ofChange windowTwiceWrong)

/- THE SECOND FORM. 'bulk': how many values and letters a reading holds, each counted each time it is reached (what is shared counts as often as it is met; a slice's spare places count too). A statement '..UptoSaid' is the law's where the arguments, and the package variables that the reading takes, are together of bulk at most 1048576: NARROWER than '..Said'. Prove '..Said' where nothing that the law and all that it calls make is longer than what came in: it says more and counts as full. Else prove '..UptoSaid'. A law counts once. -/
mutual
def uptoBulk {H : Type} : DataW H → Nat
  | .lit (.string bytes) => bytes.length + 1
  | .lit _ => 1
  | .nil => 1
  | .ptr d => uptoBulk d + 1
  | .slice elems spare => uptoBulkAll elems + uptoBulkAll spare + 1
  | .agg parts => uptoBulkAll parts + 1
  | .iface _ d => uptoBulk d + 1
  | .map entries => uptoBulkEntries entries + 1
  | .held _ => 1
def uptoBulkAll {H : Type} : List (DataW H) → Nat
  | [] => 0
  | d :: r => uptoBulk d + uptoBulkAll r
def uptoBulkEntries {H : Type} : List (Lit × DataW H) → Nat
  | [] => 0
  | x :: r => uptoBulkEntry x + uptoBulkEntries r
def uptoBulkEntry {H : Type} : Lit × DataW H → Nat
  | (.string bytes, d) => bytes.length + uptoBulk d + 1
  | (_, d) => uptoBulk d + 1
 end
def uptoSmall : (H : Type) → List (DataW H) → Bool := fun _ ds => decide (uptoBulkAll ds ≤ 1048576)
def OpenSpec.upto (s : _root_.Go.ChangeSpec) : _root_.Go.OpenSpec := { _root_.Go.OpenSpec.ofChange s with cond := some uptoSmall }

/-- 'casematelaw18.StateRight', WHERE WHAT IT READS IS OF BULK AT MOST 1048576: true; the input reads as it did. -/
def stateRightUptoRow : OpenClaim := { program := "ytliibpajgdncpaa", sum := "46f8b7be4032eefa8736986c5d7dbbc88ed17dd62e10d9ab54032ef7a1a2044d", func := "casemate/casematelaw18.StateRight", spec := "stateRight", unfollowed := true, recurses := true, apart := false, narrowed := true }
def StateRightUptoSaid : Prop := stateRightUptoRow.holds Try.pinned (OpenSpec.upto stateRightSpec)

/-- 'casematelaw18.StateEnds', WHERE WHAT IT READS IS OF BULK AT MOST 1048576: true; the input reads as it did. -/
def stateEndsUptoRow : OpenClaim := { program := "ytliibpajgdncpaa", sum := "46f8b7be4032eefa8736986c5d7dbbc88ed17dd62e10d9ab54032ef7a1a2044d", func := "casemate/casematelaw18.StateEnds", spec := "stateEnds", unfollowed := true, recurses := true, apart := false, narrowed := true }
def StateEndsUptoSaid : Prop := stateEndsUptoRow.holds Try.pinned (OpenSpec.upto stateEndsSpec)

/-- 'casematelaw18.StateResets', WHERE WHAT IT READS IS OF BULK AT MOST 1048576: true; the input reads as it did. -/
def stateResetsUptoRow : OpenClaim := { program := "ytliibpajgdncpaa", sum := "46f8b7be4032eefa8736986c5d7dbbc88ed17dd62e10d9ab54032ef7a1a2044d", func := "casemate/casematelaw18.StateResets", spec := "stateResets", unfollowed := true, recurses := true, apart := false, narrowed := true }
def StateResetsUptoSaid : Prop := stateResetsUptoRow.holds Try.pinned (OpenSpec.upto stateResetsSpec)

/-- 'casematelaw18.StateCloses', WHERE WHAT IT READS IS OF BULK AT MOST 1048576: true; the input reads as it did. -/
def stateClosesUptoRow : OpenClaim := { program := "ytliibpajgdncpaa", sum := "46f8b7be4032eefa8736986c5d7dbbc88ed17dd62e10d9ab54032ef7a1a2044d", func := "casemate/casematelaw18.StateCloses", spec := "stateCloses", unfollowed := true, recurses := true, apart := false, narrowed := true }
def StateClosesUptoSaid : Prop := stateClosesUptoRow.holds Try.pinned (OpenSpec.upto stateClosesSpec)

/-- 'casematelaw19.WindowRises', WHERE WHAT IT READS IS OF BULK AT MOST 1048576: true; the input reads as it did. -/
def windowRisesUptoRow : OpenClaim := { program := "ytliibpajgdncpaa", sum := "46f8b7be4032eefa8736986c5d7dbbc88ed17dd62e10d9ab54032ef7a1a2044d", func := "casemate/casematelaw19.WindowRises", spec := "windowRises", unfollowed := true, recurses := true, apart := false, narrowed := true }
def WindowRisesUptoSaid : Prop := windowRisesUptoRow.holds Try.pinned (OpenSpec.upto windowRisesSpec)

/-- 'casematelaw19.WindowOpens', WHERE WHAT IT READS IS OF BULK AT MOST 1048576: true; the input reads as it did. -/
def windowOpensUptoRow : OpenClaim := { program := "ytliibpajgdncpaa", sum := "46f8b7be4032eefa8736986c5d7dbbc88ed17dd62e10d9ab54032ef7a1a2044d", func := "casemate/casematelaw19.WindowOpens", spec := "windowOpens", unfollowed := true, recurses := true, apart := false, narrowed := true }
def WindowOpensUptoSaid : Prop := windowOpensUptoRow.holds Try.pinned (OpenSpec.upto windowOpensSpec)

/-- 'casematelaw19.WindowTwice', WHERE WHAT IT READS IS OF BULK AT MOST 1048576: true; the input reads as it did. -/
def windowTwiceUptoRow : OpenClaim := { program := "ytliibpajgdncpaa", sum := "46f8b7be4032eefa8736986c5d7dbbc88ed17dd62e10d9ab54032ef7a1a2044d", func := "casemate/casematelaw19.WindowTwice", spec := "windowTwice", unfollowed := true, recurses := true, apart := false, narrowed := true }
def WindowTwiceUptoSaid : Prop := windowTwiceUptoRow.holds Try.pinned (OpenSpec.upto windowTwiceSpec)

end Rows
end Go.Proofs.Ytliibpajgdncpaa
