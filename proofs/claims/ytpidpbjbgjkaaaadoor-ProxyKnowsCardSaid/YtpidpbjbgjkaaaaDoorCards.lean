/-
  DERIVED. GIVEN WITH THE SEED: THE CARDS: each row of YtpidpbjbgjkaaaaDoorRows.lean that lists a variable, with what it lists TIED to the program's text (the seventh form; the later family's looks); each row that meets fmt, with fmt's text TOLD by the authors' own Lean function (tested against real Go, not proved from fmt's source: count such statements apart). THE CARD IS WHAT COUNTS. Prove the row's statement (the work); the ties are given (YtpidpbjbgjkaaaaDoorTie.lean); close each card by the builder's one call (the guide's Derived/Test/ToyasCard.lean, 'card_holds'). Laid BY PROGRAM, IN A SANDBOX (cutbox-door.mjs). By AI agents, Wed Nov 11 2026. No macro, syntax, notation, axiom, sorry.
-/
import Derived.Test.YtpidpbjbgjkaaaaDoorRows
import GoSem.ClaimSeven
namespace Go.Proofs.YtpidpbjbgjkaaaaDoor
namespace Rows

/-- THE TIED CARD OF 'casematelaw24.ProxyRight'. -/
def proxyRightCard : Claim7 := { stood := { row := proxyRightRow, standIns := [], harness := (true, "3e289fa52a9324e98e99cb174c1594c4eafe17945060d7d481ef92118af2ac72"), looks := false }, kinds := [], alts := [], laidByText := true, laidKinds := [.data, .data, .data], laidTests := true, laidLooks := .later }
def ProxyRightCardSaid : Prop := Claim7.holds Tryd.pinned (.plain (OpenSpec.ofChange proxyRightSpec)) proxyRightCard

/-- THE TIED CARD OF 'casematelaw24.ProxyKnows'. -/
def proxyKnowsCard : Claim7 := { stood := { row := proxyKnowsRow, standIns := [], harness := (true, "3e289fa52a9324e98e99cb174c1594c4eafe17945060d7d481ef92118af2ac72"), looks := false }, kinds := [], alts := [], laidByText := true, laidKinds := [.data, .data], laidTests := true, laidLooks := .later }
def ProxyKnowsCardSaid : Prop := Claim7.holds Tryd.pinned (.plain (OpenSpec.ofChange proxyKnowsSpec)) proxyKnowsCard

/-- THE SECOND FORM's CARD OF 'casematelaw24.ProxyRight'. -/
def proxyRightUptoCard : Claim7 := { stood := { row := proxyRightUptoRow, standIns := [], harness := (true, "3e289fa52a9324e98e99cb174c1594c4eafe17945060d7d481ef92118af2ac72"), looks := false }, kinds := [], alts := [], laidByText := true, laidKinds := [.data, .data, .data], laidTests := true, laidLooks := .later }
def ProxyRightUptoCardSaid : Prop := Claim7.holds Tryd.pinned (.plain (OpenSpec.upto proxyRightSpec)) proxyRightUptoCard

/-- THE SECOND FORM's CARD OF 'casematelaw24.ProxyKnows'. -/
def proxyKnowsUptoCard : Claim7 := { stood := { row := proxyKnowsUptoRow, standIns := [], harness := (true, "3e289fa52a9324e98e99cb174c1594c4eafe17945060d7d481ef92118af2ac72"), looks := false }, kinds := [], alts := [], laidByText := true, laidKinds := [.data, .data], laidTests := true, laidLooks := .later }
def ProxyKnowsUptoCardSaid : Prop := Claim7.holds Tryd.pinned (.plain (OpenSpec.upto proxyKnowsSpec)) proxyKnowsUptoCard
end Rows
end Go.Proofs.YtpidpbjbgjkaaaaDoor
