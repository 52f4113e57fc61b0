/-
  No cell of these rows narrows 'for every input' (looked for: loops, veiled, ifaces, maps, wideKeys, modest, calm, conditions, laid).
  DERIVED. THE GIVEN ROWS OF THIS SEAT. 8 by the template 'for every input the law returns true; each argument reads behind the call as it read before'; 0 by the template 'total and deterministic' (their statements: YtdocojhjknhjnaaTotals.lean).
  GIVEN WITH THE SEED: the statements are not yours to turn. If you find one false, say at which input.
  Laid BY PROGRAM, IN A SANDBOX (cutbox-rows.mjs): the forced cells as the released guide's own fill.sh prints them over the translation 585f22290fdeca61… (all of the seat's roots in one cut). By AI agents, Wed Nov 11 2026. No macro, syntax, notation, axiom, sorry.
-/
import Derived.Test.YtdocojhjknhjnaaChecked
import GoSem.Claim
import GoSem.ClaimJoined
import GoSem.ClaimMapViews
import Derived.JoinedTies
import Derived.KernelRfl
namespace Go.Proofs.Ytdocojhjknhjnaa
/- THE CELL 'sum', in the pinned program and in every row, IS THE sha256 OF THE DUMP (.gsa) THAT YtdocojhjknhjnaaProg.lean LOADS. Nothing in Lean hashes anything: it is a label: what it is worth is what the hold of that sum in a sandbox is worth. -/
noncomputable def Try.pinned : Pinned := { name := "ytdocojhjknhjnaa", sum := "585f22290fdeca611ec6b232b80fdf11ba3a5af5aceae45ec08cb1ebe7b7d5fb", checked := Try.checked }
namespace Rows
def none {H : Type} : Left H := { results := [], args := [] }

/-- 'casematelaw14.RulesFirst': WHATEVER THE INPUT: true; the input reads as it did. -/
def rulesFirstSpec : ChangeSpec := { name := "rulesFirst", fn := fun _ => fun
  | [d1, d2, d3, d4] => { results := [.lit (.bool true)], args := [d1, d2, d3, d4] }
  | _ => none }
def rulesFirstRow : OpenClaim := { program := "ytdocojhjknhjnaa", sum := "585f22290fdeca611ec6b232b80fdf11ba3a5af5aceae45ec08cb1ebe7b7d5fb", func := "casemate/casematelaw14.RulesFirst", spec := "rulesFirst", unfollowed := true, recurses := true, apart := false }
def RulesFirstSaid : Prop := rulesFirstRow.holds Try.pinned (OpenSpec.ofChange rulesFirstSpec)

/-- ITS FALSE NEIGHBOUR: 'it returns false'. Refute it at one input. -/
def rulesFirstWrong : ChangeSpec := { name := "rulesFirst", fn := fun _ => fun
  | [d1, d2, d3, d4] => { results := [.lit (.bool false)], args := [d1, d2, d3, d4] }
  | _ => none }
def RulesFirstWrongFalsely : Prop := rulesFirstRow.holds Try.pinned (OpenSpec.ofChange rulesFirstWrong)

/-- 'casematelaw14.RulesBehind': WHATEVER THE INPUT: true; the input reads as it did. -/
def rulesBehindSpec : ChangeSpec := { name := "rulesBehind", fn := fun _ => fun
  | [d1, d2, d3, d4, d5] => { results := [.lit (.bool true)], args := [d1, d2, d3, d4, d5] }
  | _ => none }
def rulesBehindRow : OpenClaim := { program := "ytdocojhjknhjnaa", sum := "585f22290fdeca611ec6b232b80fdf11ba3a5af5aceae45ec08cb1ebe7b7d5fb", func := "casemate/casematelaw14.RulesBehind", spec := "rulesBehind", unfollowed := true, recurses := true, apart := false }
def RulesBehindSaid : Prop := rulesBehindRow.holds Try.pinned (OpenSpec.ofChange rulesBehindSpec)

/-- ITS FALSE NEIGHBOUR: 'it returns false'. Refute it at one input. -/
def rulesBehindWrong : ChangeSpec := { name := "rulesBehind", fn := fun _ => fun
  | [d1, d2, d3, d4, d5] => { results := [.lit (.bool false)], args := [d1, d2, d3, d4, d5] }
  | _ => none }
def RulesBehindWrongFalsely : Prop := rulesBehindRow.holds Try.pinned (OpenSpec.ofChange rulesBehindWrong)

/-- 'casematelaw14.RulesAny': WHATEVER THE INPUT: true; the input reads as it did. -/
def rulesAnySpec : ChangeSpec := { name := "rulesAny", fn := fun _ => fun
  | [d1, d2, d3, d4, d5] => { results := [.lit (.bool true)], args := [d1, d2, d3, d4, d5] }
  | _ => none }
def rulesAnyRow : OpenClaim := { program := "ytdocojhjknhjnaa", sum := "585f22290fdeca611ec6b232b80fdf11ba3a5af5aceae45ec08cb1ebe7b7d5fb", func := "casemate/casematelaw14.RulesAny", spec := "rulesAny", unfollowed := true, recurses := true, apart := false }
def RulesAnySaid : Prop := rulesAnyRow.holds Try.pinned (OpenSpec.ofChange rulesAnySpec)

/-- ITS FALSE NEIGHBOUR: 'it returns false'. Refute it at one input. -/
def rulesAnyWrong : ChangeSpec := { name := "rulesAny", fn := fun _ => fun
  | [d1, d2, d3, d4, d5] => { results := [.lit (.bool false)], args := [d1, d2, d3, d4, d5] }
  | _ => none }
def RulesAnyWrongFalsely : Prop := rulesAnyRow.holds Try.pinned (OpenSpec.ofChange rulesAnyWrong)

/-- 'casematelaw14.RulesRight': WHATEVER THE INPUT: true; the input reads as it did. -/
def rulesRightSpec : ChangeSpec := { name := "rulesRight", fn := fun _ => fun
  | [d1, d2, d3, d4, d5] => { results := [.lit (.bool true)], args := [d1, d2, d3, d4, d5] }
  | _ => none }
def rulesRightRow : OpenClaim := { program := "ytdocojhjknhjnaa", sum := "585f22290fdeca611ec6b232b80fdf11ba3a5af5aceae45ec08cb1ebe7b7d5fb", func := "casemate/casematelaw14.RulesRight", spec := "rulesRight", unfollowed := true, recurses := true, apart := false }
def RulesRightSaid : Prop := rulesRightRow.holds Try.pinned (OpenSpec.ofChange rulesRightSpec)

/-- ITS FALSE NEIGHBOUR: 'it returns false'. Refute it at one input. -/
def rulesRightWrong : ChangeSpec := { name := "rulesRight", fn := fun _ => fun
  | [d1, d2, d3, d4, d5] => { results := [.lit (.bool false)], args := [d1, d2, d3, d4, d5] }
  | _ => none }
def RulesRightWrongFalsely : Prop := rulesRightRow.holds Try.pinned (OpenSpec.ofChange rulesRightWrong)

/-- 'casematelaw13.RouteRight': WHATEVER THE INPUT: true; the input reads as it did. -/
def routeRightSpec : ChangeSpec := { name := "routeRight", fn := fun _ => fun
  | [d1, d2, d3, d4] => { results := [.lit (.bool true)], args := [d1, d2, d3, d4] }
  | _ => none }
def routeRightRow : OpenClaim := { program := "ytdocojhjknhjnaa", sum := "585f22290fdeca611ec6b232b80fdf11ba3a5af5aceae45ec08cb1ebe7b7d5fb", func := "casemate/casematelaw13.RouteRight", spec := "routeRight", unfollowed := true, recurses := true, apart := false }
def RouteRightSaid : Prop := routeRightRow.holds Try.pinned (OpenSpec.ofChange routeRightSpec)

/-- ITS FALSE NEIGHBOUR: 'it returns false'. Refute it at one input. -/
def routeRightWrong : ChangeSpec := { name := "routeRight", fn := fun _ => fun
  | [d1, d2, d3, d4] => { results := [.lit (.bool false)], args := [d1, d2, d3, d4] }
  | _ => none }
def RouteRightWrongFalsely : Prop := routeRightRow.holds Try.pinned (OpenSpec.ofChange routeRightWrong)

/-- 'casematelaw13.RouteLongest': WHATEVER THE INPUT: true; the input reads as it did. -/
def routeLongestSpec : ChangeSpec := { name := "routeLongest", fn := fun _ => fun
  | [d1, d2] => { results := [.lit (.bool true)], args := [d1, d2] }
  | _ => none }
def routeLongestRow : OpenClaim := { program := "ytdocojhjknhjnaa", sum := "585f22290fdeca611ec6b232b80fdf11ba3a5af5aceae45ec08cb1ebe7b7d5fb", func := "casemate/casematelaw13.RouteLongest", spec := "routeLongest", unfollowed := true, recurses := true, apart := false }
def RouteLongestSaid : Prop := routeLongestRow.holds Try.pinned (OpenSpec.ofChange routeLongestSpec)

/-- ITS FALSE NEIGHBOUR: 'it returns false'. Refute it at one input. -/
def routeLongestWrong : ChangeSpec := { name := "routeLongest", fn := fun _ => fun
  | [d1, d2] => { results := [.lit (.bool false)], args := [d1, d2] }
  | _ => none }
def RouteLongestWrongFalsely : Prop := routeLongestRow.holds Try.pinned (OpenSpec.ofChange routeLongestWrong)

/-- 'casematelaw13.RouteMore': WHATEVER THE INPUT: true; the input reads as it did. -/
def routeMoreSpec : ChangeSpec := { name := "routeMore", fn := fun _ => fun
  | [d1, d2, d3, d4] => { results := [.lit (.bool true)], args := [d1, d2, d3, d4] }
  | _ => none }
def routeMoreRow : OpenClaim := { program := "ytdocojhjknhjnaa", sum := "585f22290fdeca611ec6b232b80fdf11ba3a5af5aceae45ec08cb1ebe7b7d5fb", func := "casemate/casematelaw13.RouteMore", spec := "routeMore", unfollowed := true, recurses := true, apart := false }
def RouteMoreSaid : Prop := routeMoreRow.holds Try.pinned (OpenSpec.ofChange routeMoreSpec)

/-- ITS FALSE NEIGHBOUR: 'it returns false'. Refute it at one input. -/
def routeMoreWrong : ChangeSpec := { name := "routeMore", fn := fun _ => fun
  | [d1, d2, d3, d4] => { results := [.lit (.bool false)], args := [d1, d2, d3, d4] }
  | _ => none }
def RouteMoreWrongFalsely : Prop := routeMoreRow.holds Try.pinned (OpenSpec.ofChange routeMoreWrong)

/-- 'casematelaw13.RouteEnds': WHATEVER THE INPUT: true; the input reads as it did. -/
def routeEndsSpec : ChangeSpec := { name := "routeEnds", fn := fun _ => fun
  | [d1, d2, d3, d4] => { results := [.lit (.bool true)], args := [d1, d2, d3, d4] }
  | _ => none }
def routeEndsRow : OpenClaim := { program := "ytdocojhjknhjnaa", sum := "585f22290fdeca611ec6b232b80fdf11ba3a5af5aceae45ec08cb1ebe7b7d5fb", func := "casemate/casematelaw13.RouteEnds", spec := "routeEnds", unfollowed := true, recurses := true, apart := false }
def RouteEndsSaid : Prop := routeEndsRow.holds Try.pinned (OpenSpec.ofChange routeEndsSpec)

/-- ITS FALSE NEIGHBOUR: 'it returns false'. Refute it at one input. -/
def routeEndsWrong : ChangeSpec := { name := "routeEnds", fn := fun _ => fun
  | [d1, d2, d3, d4] => { results := [.lit (.bool false)], args := [d1, d2, d3, d4] }
  | _ => none }
def RouteEndsWrongFalsely : Prop := routeEndsRow.holds Try.pinned (OpenSpec.ofChange routeEndsWrong)

/- THE SECOND FORM. 'bulk': how many values and letters a reading holds, each counted each time it is reached (what is shared counts as often as it is met; a slice's spare places count too). A statement '..UptoSaid' is the law's where the arguments, and the package variables that the reading takes, are together of bulk at most 1048576: NARROWER than '..Said'. Prove '..Said' where nothing that the law and all that it calls make is longer than what came in: it says more and counts as full. Else prove '..UptoSaid'. A law counts once. -/
mutual
def uptoBulk {H : Type} : DataW H → Nat
  | .lit (.string bytes) => bytes.length + 1
  | .lit _ => 1
  | .nil => 1
  | .ptr d => uptoBulk d + 1
  | .slice elems spare => uptoBulkAll elems + uptoBulkAll spare + 1
  | .agg parts => uptoBulkAll parts + 1
  | .iface _ d => uptoBulk d + 1
  | .map entries => uptoBulkEntries entries + 1
  | .held _ => 1
def uptoBulkAll {H : Type} : List (DataW H) → Nat
  | [] => 0
  | d :: r => uptoBulk d + uptoBulkAll r
def uptoBulkEntries {H : Type} : List (Lit × DataW H) → Nat
  | [] => 0
  | x :: r => uptoBulkEntry x + uptoBulkEntries r
def uptoBulkEntry {H : Type} : Lit × DataW H → Nat
  | (.string bytes, d) => bytes.length + uptoBulk d + 1
  | (_, d) => uptoBulk d + 1
 end
def uptoSmall : (H : Type) → List (DataW H) → Bool := fun _ ds => decide (uptoBulkAll ds ≤ 1048576)
def OpenSpec.upto (s : _root_.Go.ChangeSpec) : _root_.Go.OpenSpec := { _root_.Go.OpenSpec.ofChange s with cond := some uptoSmall }

/-- 'casematelaw14.RulesFirst', WHERE WHAT IT READS IS OF BULK AT MOST 1048576: true; the input reads as it did. -/
def rulesFirstUptoRow : OpenClaim := { program := "ytdocojhjknhjnaa", sum := "585f22290fdeca611ec6b232b80fdf11ba3a5af5aceae45ec08cb1ebe7b7d5fb", func := "casemate/casematelaw14.RulesFirst", spec := "rulesFirst", unfollowed := true, recurses := true, apart := false, narrowed := true }
def RulesFirstUptoSaid : Prop := rulesFirstUptoRow.holds Try.pinned (OpenSpec.upto rulesFirstSpec)

/-- 'casematelaw14.RulesBehind', WHERE WHAT IT READS IS OF BULK AT MOST 1048576: true; the input reads as it did. -/
def rulesBehindUptoRow : OpenClaim := { program := "ytdocojhjknhjnaa", sum := "585f22290fdeca611ec6b232b80fdf11ba3a5af5aceae45ec08cb1ebe7b7d5fb", func := "casemate/casematelaw14.RulesBehind", spec := "rulesBehind", unfollowed := true, recurses := true, apart := false, narrowed := true }
def RulesBehindUptoSaid : Prop := rulesBehindUptoRow.holds Try.pinned (OpenSpec.upto rulesBehindSpec)

/-- 'casematelaw14.RulesAny', WHERE WHAT IT READS IS OF BULK AT MOST 1048576: true; the input reads as it did. -/
def rulesAnyUptoRow : OpenClaim := { program := "ytdocojhjknhjnaa", sum := "585f22290fdeca611ec6b232b80fdf11ba3a5af5aceae45ec08cb1ebe7b7d5fb", func := "casemate/casematelaw14.RulesAny", spec := "rulesAny", unfollowed := true, recurses := true, apart := false, narrowed := true }
def RulesAnyUptoSaid : Prop := rulesAnyUptoRow.holds Try.pinned (OpenSpec.upto rulesAnySpec)

/-- 'casematelaw14.RulesRight', WHERE WHAT IT READS IS OF BULK AT MOST 1048576: true; the input reads as it did. -/
def rulesRightUptoRow : OpenClaim := { program := "ytdocojhjknhjnaa", sum := "585f22290fdeca611ec6b232b80fdf11ba3a5af5aceae45ec08cb1ebe7b7d5fb", func := "casemate/casematelaw14.RulesRight", spec := "rulesRight", unfollowed := true, recurses := true, apart := false, narrowed := true }
def RulesRightUptoSaid : Prop := rulesRightUptoRow.holds Try.pinned (OpenSpec.upto rulesRightSpec)

/-- 'casematelaw13.RouteRight', WHERE WHAT IT READS IS OF BULK AT MOST 1048576: true; the input reads as it did. -/
def routeRightUptoRow : OpenClaim := { program := "ytdocojhjknhjnaa", sum := "585f22290fdeca611ec6b232b80fdf11ba3a5af5aceae45ec08cb1ebe7b7d5fb", func := "casemate/casematelaw13.RouteRight", spec := "routeRight", unfollowed := true, recurses := true, apart := false, narrowed := true }
def RouteRightUptoSaid : Prop := routeRightUptoRow.holds Try.pinned (OpenSpec.upto routeRightSpec)

/-- 'casematelaw13.RouteLongest', WHERE WHAT IT READS IS OF BULK AT MOST 1048576: true; the input reads as it did. -/
def routeLongestUptoRow : OpenClaim := { program := "ytdocojhjknhjnaa", sum := "585f22290fdeca611ec6b232b80fdf11ba3a5af5aceae45ec08cb1ebe7b7d5fb", func := "casemate/casematelaw13.RouteLongest", spec := "routeLongest", unfollowed := true, recurses := true, apart := false, narrowed := true }
def RouteLongestUptoSaid : Prop := routeLongestUptoRow.holds Try.pinned (OpenSpec.upto routeLongestSpec)

/-- 'casematelaw13.RouteMore', WHERE WHAT IT READS IS OF BULK AT MOST 1048576: true; the input reads as it did. -/
def routeMoreUptoRow : OpenClaim := { program := "ytdocojhjknhjnaa", sum := "585f22290fdeca611ec6b232b80fdf11ba3a5af5aceae45ec08cb1ebe7b7d5fb", func := "casemate/casematelaw13.RouteMore", spec := "routeMore", unfollowed := true, recurses := true, apart := false, narrowed := true }
def RouteMoreUptoSaid : Prop := routeMoreUptoRow.holds Try.pinned (OpenSpec.upto routeMoreSpec)

/-- 'casematelaw13.RouteEnds', WHERE WHAT IT READS IS OF BULK AT MOST 1048576: true; the input reads as it did. -/
def routeEndsUptoRow : OpenClaim := { program := "ytdocojhjknhjnaa", sum := "585f22290fdeca611ec6b232b80fdf11ba3a5af5aceae45ec08cb1ebe7b7d5fb", func := "casemate/casematelaw13.RouteEnds", spec := "routeEnds", unfollowed := true, recurses := true, apart := false, narrowed := true }
def RouteEndsUptoSaid : Prop := routeEndsUptoRow.holds Try.pinned (OpenSpec.upto routeEndsSpec)

end Rows
end Go.Proofs.Ytdocojhjknhjnaa
