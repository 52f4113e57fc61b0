/-
  No cell of these rows narrows 'for every input' (looked for: loops, veiled, ifaces, maps, wideKeys, modest, calm, conditions, laid).
  DERIVED. THE GIVEN ROWS OF THIS SEAT. 10 by the template 'for every input the law returns true; each argument reads behind the call as it read before'; 0 by the template 'total and deterministic' (their statements: YtodcbejdlnikgaaTotals.lean).
  GIVEN WITH THE SEED: the statements are not yours to turn. If you find one false, say at which input.
  Laid BY PROGRAM, IN A SANDBOX (cutbox-rows.mjs): the forced cells as the released guide's own fill.sh prints them over the translation d39108bfb59bec60… (all of the seat's roots in one cut). By AI agents, Wed Nov 11 2026. No macro, syntax, notation, axiom, sorry.
-/
import Derived.Test.YtodcbejdlnikgaaChecked
import GoSem.Claim
import GoSem.ClaimJoined
import GoSem.ClaimMapViews
import Derived.JoinedTies
import Derived.KernelRfl
namespace Go.Proofs.Ytodcbejdlnikgaa
/- THE CELL 'sum', in the pinned program and in every row, IS THE sha256 OF THE DUMP (.gsa) THAT YtodcbejdlnikgaaProg.lean LOADS. Nothing in Lean hashes anything: it is a label: what it is worth is what the hold of that sum in a sandbox is worth. -/
noncomputable def Try.pinned : Pinned := { name := "ytodcbejdlnikgaa", sum := "d39108bfb59bec60ca3c63b6ae16646a5981cee9dee3cacc87a609061ab1b3a3", checked := Try.checked }
namespace Rows
def none {H : Type} : Left H := { results := [], args := [] }

/-- 'casematelaw02.CsumMends': WHATEVER THE INPUT: true; the input reads as it did. -/
def csumMendsSpec : ChangeSpec := { name := "csumMends", fn := fun _ => fun
  | [d1, d2, d3] => { results := [.lit (.bool true)], args := [d1, d2, d3] }
  | _ => none }
def csumMendsRow : OpenClaim := { program := "ytodcbejdlnikgaa", sum := "d39108bfb59bec60ca3c63b6ae16646a5981cee9dee3cacc87a609061ab1b3a3", func := "casemate/casematelaw02.CsumMends", spec := "csumMends", apart := false }
def CsumMendsSaid : Prop := csumMendsRow.holds Try.pinned (OpenSpec.ofChange csumMendsSpec)

/-- ITS FALSE NEIGHBOUR: 'it returns false'. Refute it at one input. -/
def csumMendsWrong : ChangeSpec := { name := "csumMends", fn := fun _ => fun
  | [d1, d2, d3] => { results := [.lit (.bool false)], args := [d1, d2, d3] }
  | _ => none }
def CsumMendsWrongFalsely : Prop := csumMendsRow.holds Try.pinned (OpenSpec.ofChange csumMendsWrong)

/-- 'casematelaw02.CsumStands': WHATEVER THE INPUT: true; the input reads as it did. -/
def csumStandsSpec : ChangeSpec := { name := "csumStands", fn := fun _ => fun
  | [d1, d2, d3, d4] => { results := [.lit (.bool true)], args := [d1, d2, d3, d4] }
  | _ => none }
def csumStandsRow : OpenClaim := { program := "ytodcbejdlnikgaa", sum := "d39108bfb59bec60ca3c63b6ae16646a5981cee9dee3cacc87a609061ab1b3a3", func := "casemate/casematelaw02.CsumStands", spec := "csumStands", apart := false }
def CsumStandsSaid : Prop := csumStandsRow.holds Try.pinned (OpenSpec.ofChange csumStandsSpec)

/-- ITS FALSE NEIGHBOUR: 'it returns false'. Refute it at one input. -/
def csumStandsWrong : ChangeSpec := { name := "csumStands", fn := fun _ => fun
  | [d1, d2, d3, d4] => { results := [.lit (.bool false)], args := [d1, d2, d3, d4] }
  | _ => none }
def CsumStandsWrongFalsely : Prop := csumStandsRow.holds Try.pinned (OpenSpec.ofChange csumStandsWrong)

/-- 'casematelaw02.CsumOrder': WHATEVER THE INPUT: true; the input reads as it did. -/
def csumOrderSpec : ChangeSpec := { name := "csumOrder", fn := fun _ => fun
  | [d1, d2] => { results := [.lit (.bool true)], args := [d1, d2] }
  | _ => none }
def csumOrderRow : OpenClaim := { program := "ytodcbejdlnikgaa", sum := "d39108bfb59bec60ca3c63b6ae16646a5981cee9dee3cacc87a609061ab1b3a3", func := "casemate/casematelaw02.CsumOrder", spec := "csumOrder", apart := false }
def CsumOrderSaid : Prop := csumOrderRow.holds Try.pinned (OpenSpec.ofChange csumOrderSpec)

/-- ITS FALSE NEIGHBOUR: 'it returns false'. Refute it at one input. -/
def csumOrderWrong : ChangeSpec := { name := "csumOrder", fn := fun _ => fun
  | [d1, d2] => { results := [.lit (.bool false)], args := [d1, d2] }
  | _ => none }
def CsumOrderWrongFalsely : Prop := csumOrderRow.holds Try.pinned (OpenSpec.ofChange csumOrderWrong)

/-- 'casematelaw02.CsumJoins': WHATEVER THE INPUT: true; the input reads as it did. -/
def csumJoinsSpec : ChangeSpec := { name := "csumJoins", fn := fun _ => fun
  | [d1, d2, d3, d4, d5] => { results := [.lit (.bool true)], args := [d1, d2, d3, d4, d5] }
  | _ => none }
def csumJoinsRow : OpenClaim := { program := "ytodcbejdlnikgaa", sum := "d39108bfb59bec60ca3c63b6ae16646a5981cee9dee3cacc87a609061ab1b3a3", func := "casemate/casematelaw02.CsumJoins", spec := "csumJoins", apart := false }
def CsumJoinsSaid : Prop := csumJoinsRow.holds Try.pinned (OpenSpec.ofChange csumJoinsSpec)

/-- ITS FALSE NEIGHBOUR: 'it returns false'. Refute it at one input. -/
def csumJoinsWrong : ChangeSpec := { name := "csumJoins", fn := fun _ => fun
  | [d1, d2, d3, d4, d5] => { results := [.lit (.bool false)], args := [d1, d2, d3, d4, d5] }
  | _ => none }
def CsumJoinsWrongFalsely : Prop := csumJoinsRow.holds Try.pinned (OpenSpec.ofChange csumJoinsWrong)

/-- 'casematelaw02.CsumRight': WHATEVER THE INPUT: true; the input reads as it did. -/
def csumRightSpec : ChangeSpec := { name := "csumRight", fn := fun _ => fun
  | [d1, d2, d3, d4, d5, d6, d7, d8] => { results := [.lit (.bool true)], args := [d1, d2, d3, d4, d5, d6, d7, d8] }
  | _ => none }
def csumRightRow : OpenClaim := { program := "ytodcbejdlnikgaa", sum := "d39108bfb59bec60ca3c63b6ae16646a5981cee9dee3cacc87a609061ab1b3a3", func := "casemate/casematelaw02.CsumRight", spec := "csumRight", apart := false }
def CsumRightSaid : Prop := csumRightRow.holds Try.pinned (OpenSpec.ofChange csumRightSpec)

/-- ITS FALSE NEIGHBOUR: 'it returns false'. Refute it at one input. -/
def csumRightWrong : ChangeSpec := { name := "csumRight", fn := fun _ => fun
  | [d1, d2, d3, d4, d5, d6, d7, d8] => { results := [.lit (.bool false)], args := [d1, d2, d3, d4, d5, d6, d7, d8] }
  | _ => none }
def CsumRightWrongFalsely : Prop := csumRightRow.holds Try.pinned (OpenSpec.ofChange csumRightWrong)

/-- 'casematelaw05.UdpReads': WHATEVER THE INPUT: true; the input reads as it did. -/
def udpReadsSpec : ChangeSpec := { name := "udpReads", fn := fun _ => fun
  | [d1, d2, d3] => { results := [.lit (.bool true)], args := [d1, d2, d3] }
  | _ => none }
def udpReadsRow : OpenClaim := { program := "ytodcbejdlnikgaa", sum := "d39108bfb59bec60ca3c63b6ae16646a5981cee9dee3cacc87a609061ab1b3a3", func := "casemate/casematelaw05.UdpReads", spec := "udpReads", apart := false }
def UdpReadsSaid : Prop := udpReadsRow.holds Try.pinned (OpenSpec.ofChange udpReadsSpec)

/-- ITS FALSE NEIGHBOUR: 'it returns false'. Refute it at one input. -/
def udpReadsWrong : ChangeSpec := { name := "udpReads", fn := fun _ => fun
  | [d1, d2, d3] => { results := [.lit (.bool false)], args := [d1, d2, d3] }
  | _ => none }
def UdpReadsWrongFalsely : Prop := udpReadsRow.holds Try.pinned (OpenSpec.ofChange udpReadsWrong)

/-- 'casematelaw05.UdpSpoilt': WHATEVER THE INPUT: true; the input reads as it did. -/
def udpSpoiltSpec : ChangeSpec := { name := "udpSpoilt", fn := fun _ => fun
  | [d1, d2, d3, d4, d5] => { results := [.lit (.bool true)], args := [d1, d2, d3, d4, d5] }
  | _ => none }
def udpSpoiltRow : OpenClaim := { program := "ytodcbejdlnikgaa", sum := "d39108bfb59bec60ca3c63b6ae16646a5981cee9dee3cacc87a609061ab1b3a3", func := "casemate/casematelaw05.UdpSpoilt", spec := "udpSpoilt", apart := false }
def UdpSpoiltSaid : Prop := udpSpoiltRow.holds Try.pinned (OpenSpec.ofChange udpSpoiltSpec)

/-- ITS FALSE NEIGHBOUR: 'it returns false'. Refute it at one input. -/
def udpSpoiltWrong : ChangeSpec := { name := "udpSpoilt", fn := fun _ => fun
  | [d1, d2, d3, d4, d5] => { results := [.lit (.bool false)], args := [d1, d2, d3, d4, d5] }
  | _ => none }
def UdpSpoiltWrongFalsely : Prop := udpSpoiltRow.holds Try.pinned (OpenSpec.ofChange udpSpoiltWrong)

/-- 'casematelaw05.UdpLaid': WHATEVER THE INPUT: true; the input reads as it did. -/
def udpLaidSpec : ChangeSpec := { name := "udpLaid", fn := fun _ => fun
  | [d1, d2, d3] => { results := [.lit (.bool true)], args := [d1, d2, d3] }
  | _ => none }
def udpLaidRow : OpenClaim := { program := "ytodcbejdlnikgaa", sum := "d39108bfb59bec60ca3c63b6ae16646a5981cee9dee3cacc87a609061ab1b3a3", func := "casemate/casematelaw05.UdpLaid", spec := "udpLaid", apart := false }
def UdpLaidSaid : Prop := udpLaidRow.holds Try.pinned (OpenSpec.ofChange udpLaidSpec)

/-- ITS FALSE NEIGHBOUR: 'it returns false'. Refute it at one input. -/
def udpLaidWrong : ChangeSpec := { name := "udpLaid", fn := fun _ => fun
  | [d1, d2, d3] => { results := [.lit (.bool false)], args := [d1, d2, d3] }
  | _ => none }
def UdpLaidWrongFalsely : Prop := udpLaidRow.holds Try.pinned (OpenSpec.ofChange udpLaidWrong)

/-- 'casematelaw05.UdpPuts': WHATEVER THE INPUT: true; the input reads as it did. -/
def udpPutsSpec : ChangeSpec := { name := "udpPuts", fn := fun _ => fun
  | [d1, d2, d3, d4] => { results := [.lit (.bool true)], args := [d1, d2, d3, d4] }
  | _ => none }
def udpPutsRow : OpenClaim := { program := "ytodcbejdlnikgaa", sum := "d39108bfb59bec60ca3c63b6ae16646a5981cee9dee3cacc87a609061ab1b3a3", func := "casemate/casematelaw05.UdpPuts", spec := "udpPuts", apart := false }
def UdpPutsSaid : Prop := udpPutsRow.holds Try.pinned (OpenSpec.ofChange udpPutsSpec)

/-- ITS FALSE NEIGHBOUR: 'it returns false'. Refute it at one input. -/
def udpPutsWrong : ChangeSpec := { name := "udpPuts", fn := fun _ => fun
  | [d1, d2, d3, d4] => { results := [.lit (.bool false)], args := [d1, d2, d3, d4] }
  | _ => none }
def UdpPutsWrongFalsely : Prop := udpPutsRow.holds Try.pinned (OpenSpec.ofChange udpPutsWrong)

/-- 'casematelaw05.UdpBack': WHATEVER THE INPUT: true; the input reads as it did. -/
def udpBackSpec : ChangeSpec := { name := "udpBack", fn := fun _ => fun
  | [d1, d2, d3, d4] => { results := [.lit (.bool true)], args := [d1, d2, d3, d4] }
  | _ => none }
def udpBackRow : OpenClaim := { program := "ytodcbejdlnikgaa", sum := "d39108bfb59bec60ca3c63b6ae16646a5981cee9dee3cacc87a609061ab1b3a3", func := "casemate/casematelaw05.UdpBack", spec := "udpBack", apart := false }
def UdpBackSaid : Prop := udpBackRow.holds Try.pinned (OpenSpec.ofChange udpBackSpec)

/-- ITS FALSE NEIGHBOUR: 'it returns false'. Refute it at one input. -/
def udpBackWrong : ChangeSpec := { name := "udpBack", fn := fun _ => fun
  | [d1, d2, d3, d4] => { results := [.lit (.bool false)], args := [d1, d2, d3, d4] }
  | _ => none }
def UdpBackWrongFalsely : Prop := udpBackRow.holds Try.pinned (OpenSpec.ofChange udpBackWrong)

/- THE SECOND FORM. 'bulk': how many values and letters a reading holds, each counted each time it is reached (what is shared counts as often as it is met; a slice's spare places count too). A statement '..UptoSaid' is the law's where the arguments, and the package variables that the reading takes, are together of bulk at most 1048576: NARROWER than '..Said'. Prove '..Said' where nothing that the law and all that it calls make is longer than what came in: it says more and counts as full. Else prove '..UptoSaid'. A law counts once. -/
mutual
def uptoBulk {H : Type} : DataW H → Nat
  | .lit (.string bytes) => bytes.length + 1
  | .lit _ => 1
  | .nil => 1
  | .ptr d => uptoBulk d + 1
  | .slice elems spare => uptoBulkAll elems + uptoBulkAll spare + 1
  | .agg parts => uptoBulkAll parts + 1
  | .iface _ d => uptoBulk d + 1
  | .map entries => uptoBulkEntries entries + 1
  | .held _ => 1
def uptoBulkAll {H : Type} : List (DataW H) → Nat
  | [] => 0
  | d :: r => uptoBulk d + uptoBulkAll r
def uptoBulkEntries {H : Type} : List (Lit × DataW H) → Nat
  | [] => 0
  | x :: r => uptoBulkEntry x + uptoBulkEntries r
def uptoBulkEntry {H : Type} : Lit × DataW H → Nat
  | (.string bytes, d) => bytes.length + uptoBulk d + 1
  | (_, d) => uptoBulk d + 1
 end
def uptoSmall : (H : Type) → List (DataW H) → Bool := fun _ ds => decide (uptoBulkAll ds ≤ 1048576)
def OpenSpec.upto (s : _root_.Go.ChangeSpec) : _root_.Go.OpenSpec := { _root_.Go.OpenSpec.ofChange s with cond := some uptoSmall }

/-- 'casematelaw02.CsumMends', WHERE WHAT IT READS IS OF BULK AT MOST 1048576: true; the input reads as it did. -/
def csumMendsUptoRow : OpenClaim := { program := "ytodcbejdlnikgaa", sum := "d39108bfb59bec60ca3c63b6ae16646a5981cee9dee3cacc87a609061ab1b3a3", func := "casemate/casematelaw02.CsumMends", spec := "csumMends", apart := false, narrowed := true }
def CsumMendsUptoSaid : Prop := csumMendsUptoRow.holds Try.pinned (OpenSpec.upto csumMendsSpec)

/-- 'casematelaw02.CsumStands', WHERE WHAT IT READS IS OF BULK AT MOST 1048576: true; the input reads as it did. -/
def csumStandsUptoRow : OpenClaim := { program := "ytodcbejdlnikgaa", sum := "d39108bfb59bec60ca3c63b6ae16646a5981cee9dee3cacc87a609061ab1b3a3", func := "casemate/casematelaw02.CsumStands", spec := "csumStands", apart := false, narrowed := true }
def CsumStandsUptoSaid : Prop := csumStandsUptoRow.holds Try.pinned (OpenSpec.upto csumStandsSpec)

/-- 'casematelaw02.CsumOrder', WHERE WHAT IT READS IS OF BULK AT MOST 1048576: true; the input reads as it did. -/
def csumOrderUptoRow : OpenClaim := { program := "ytodcbejdlnikgaa", sum := "d39108bfb59bec60ca3c63b6ae16646a5981cee9dee3cacc87a609061ab1b3a3", func := "casemate/casematelaw02.CsumOrder", spec := "csumOrder", apart := false, narrowed := true }
def CsumOrderUptoSaid : Prop := csumOrderUptoRow.holds Try.pinned (OpenSpec.upto csumOrderSpec)

/-- 'casematelaw02.CsumJoins', WHERE WHAT IT READS IS OF BULK AT MOST 1048576: true; the input reads as it did. -/
def csumJoinsUptoRow : OpenClaim := { program := "ytodcbejdlnikgaa", sum := "d39108bfb59bec60ca3c63b6ae16646a5981cee9dee3cacc87a609061ab1b3a3", func := "casemate/casematelaw02.CsumJoins", spec := "csumJoins", apart := false, narrowed := true }
def CsumJoinsUptoSaid : Prop := csumJoinsUptoRow.holds Try.pinned (OpenSpec.upto csumJoinsSpec)

/-- 'casematelaw02.CsumRight', WHERE WHAT IT READS IS OF BULK AT MOST 1048576: true; the input reads as it did. -/
def csumRightUptoRow : OpenClaim := { program := "ytodcbejdlnikgaa", sum := "d39108bfb59bec60ca3c63b6ae16646a5981cee9dee3cacc87a609061ab1b3a3", func := "casemate/casematelaw02.CsumRight", spec := "csumRight", apart := false, narrowed := true }
def CsumRightUptoSaid : Prop := csumRightUptoRow.holds Try.pinned (OpenSpec.upto csumRightSpec)

/-- 'casematelaw05.UdpReads', WHERE WHAT IT READS IS OF BULK AT MOST 1048576: true; the input reads as it did. -/
def udpReadsUptoRow : OpenClaim := { program := "ytodcbejdlnikgaa", sum := "d39108bfb59bec60ca3c63b6ae16646a5981cee9dee3cacc87a609061ab1b3a3", func := "casemate/casematelaw05.UdpReads", spec := "udpReads", apart := false, narrowed := true }
def UdpReadsUptoSaid : Prop := udpReadsUptoRow.holds Try.pinned (OpenSpec.upto udpReadsSpec)

/-- 'casematelaw05.UdpSpoilt', WHERE WHAT IT READS IS OF BULK AT MOST 1048576: true; the input reads as it did. -/
def udpSpoiltUptoRow : OpenClaim := { program := "ytodcbejdlnikgaa", sum := "d39108bfb59bec60ca3c63b6ae16646a5981cee9dee3cacc87a609061ab1b3a3", func := "casemate/casematelaw05.UdpSpoilt", spec := "udpSpoilt", apart := false, narrowed := true }
def UdpSpoiltUptoSaid : Prop := udpSpoiltUptoRow.holds Try.pinned (OpenSpec.upto udpSpoiltSpec)

/-- 'casematelaw05.UdpLaid', WHERE WHAT IT READS IS OF BULK AT MOST 1048576: true; the input reads as it did. -/
def udpLaidUptoRow : OpenClaim := { program := "ytodcbejdlnikgaa", sum := "d39108bfb59bec60ca3c63b6ae16646a5981cee9dee3cacc87a609061ab1b3a3", func := "casemate/casematelaw05.UdpLaid", spec := "udpLaid", apart := false, narrowed := true }
def UdpLaidUptoSaid : Prop := udpLaidUptoRow.holds Try.pinned (OpenSpec.upto udpLaidSpec)

/-- 'casematelaw05.UdpPuts', WHERE WHAT IT READS IS OF BULK AT MOST 1048576: true; the input reads as it did. -/
def udpPutsUptoRow : OpenClaim := { program := "ytodcbejdlnikgaa", sum := "d39108bfb59bec60ca3c63b6ae16646a5981cee9dee3cacc87a609061ab1b3a3", func := "casemate/casematelaw05.UdpPuts", spec := "udpPuts", apart := false, narrowed := true }
def UdpPutsUptoSaid : Prop := udpPutsUptoRow.holds Try.pinned (OpenSpec.upto udpPutsSpec)

/-- 'casematelaw05.UdpBack', WHERE WHAT IT READS IS OF BULK AT MOST 1048576: true; the input reads as it did. -/
def udpBackUptoRow : OpenClaim := { program := "ytodcbejdlnikgaa", sum := "d39108bfb59bec60ca3c63b6ae16646a5981cee9dee3cacc87a609061ab1b3a3", func := "casemate/casematelaw05.UdpBack", spec := "udpBack", apart := false, narrowed := true }
def UdpBackUptoSaid : Prop := udpBackUptoRow.holds Try.pinned (OpenSpec.upto udpBackSpec)

end Rows
end Go.Proofs.Ytodcbejdlnikgaa
