/-
  DERIVED. GIVEN WITH THE SEED: THE CARDS: each row of YtdnboohhplnnhaaDoorRows.lean that lists a variable, with what it lists TIED to the program's text (the seventh form; the later family's looks); each row that meets fmt, with fmt's text TOLD by the authors' own Lean function (tested against real Go, not proved from fmt's source: count such statements apart). THE CARD IS WHAT COUNTS. Prove the row's statement (the work); the ties are given (YtdnboohhplnnhaaDoorTie.lean); close each card by the builder's one call (the guide's Derived/Test/ToyasCard.lean, 'card_holds'). Laid BY PROGRAM, IN A SANDBOX (cutbox-door.mjs). By AI agents, Wed Nov 11 2026. No macro, syntax, notation, axiom, sorry.
-/
import Derived.Test.YtdnboohhplnnhaaDoorRows
import GoSem.ClaimSeven
namespace Go.Proofs.YtdnboohhplnnhaaDoor
namespace Rows

/-- THE TIED CARD OF 'casematelaw23.CookieRight'. -/
def cookieRightCard : Claim7 := { stood := { row := cookieRightRow, standIns := [], harness := (true, "627c4ff3432d3758e5a8040cd9425e5ec7772d77635b900be260e099700453f9"), looks := false }, kinds := [], alts := [], laidByText := true, laidKinds := [.data, .data, .data], laidTests := true, laidLooks := .later }
def CookieRightCardSaid : Prop := Claim7.holds Tryd.pinned (.plain (OpenSpec.ofChange cookieRightSpec)) cookieRightCard

/-- THE TIED CARD OF 'casematelaw23.CookieChecks'. -/
def cookieChecksCard : Claim7 := { stood := { row := cookieChecksRow, standIns := [], harness := (true, "627c4ff3432d3758e5a8040cd9425e5ec7772d77635b900be260e099700453f9"), looks := false }, kinds := [], alts := [], laidByText := true, laidKinds := [.data, .data, .data], laidTests := true, laidLooks := .later }
def CookieChecksCardSaid : Prop := Claim7.holds Tryd.pinned (.plain (OpenSpec.ofChange cookieChecksSpec)) cookieChecksCard

/-- THE TIED CARD OF 'casematelaw23.CookieBits'. -/
def cookieBitsCard : Claim7 := { stood := { row := cookieBitsRow, standIns := [], harness := (true, "627c4ff3432d3758e5a8040cd9425e5ec7772d77635b900be260e099700453f9"), looks := false }, kinds := [], alts := [], laidByText := true, laidKinds := [.data, .data], laidTests := true, laidLooks := .later }
def CookieBitsCardSaid : Prop := Claim7.holds Tryd.pinned (.plain (OpenSpec.ofChange cookieBitsSpec)) cookieBitsCard

/-- THE TIED CARD OF 'casematelaw23.CookieKnows'. -/
def cookieKnowsCard : Claim7 := { stood := { row := cookieKnowsRow, standIns := [], harness := (true, "627c4ff3432d3758e5a8040cd9425e5ec7772d77635b900be260e099700453f9"), looks := false }, kinds := [], alts := [], laidByText := true, laidKinds := [.data, .data, .data], laidTests := true, laidLooks := .later }
def CookieKnowsCardSaid : Prop := Claim7.holds Tryd.pinned (.plain (OpenSpec.ofChange cookieKnowsSpec)) cookieKnowsCard

/-- THE SECOND FORM's CARD OF 'casematelaw23.CookieRight'. -/
def cookieRightUptoCard : Claim7 := { stood := { row := cookieRightUptoRow, standIns := [], harness := (true, "627c4ff3432d3758e5a8040cd9425e5ec7772d77635b900be260e099700453f9"), looks := false }, kinds := [], alts := [], laidByText := true, laidKinds := [.data, .data, .data], laidTests := true, laidLooks := .later }
def CookieRightUptoCardSaid : Prop := Claim7.holds Tryd.pinned (.plain (OpenSpec.upto cookieRightSpec)) cookieRightUptoCard

/-- THE SECOND FORM's CARD OF 'casematelaw23.CookieChecks'. -/
def cookieChecksUptoCard : Claim7 := { stood := { row := cookieChecksUptoRow, standIns := [], harness := (true, "627c4ff3432d3758e5a8040cd9425e5ec7772d77635b900be260e099700453f9"), looks := false }, kinds := [], alts := [], laidByText := true, laidKinds := [.data, .data, .data], laidTests := true, laidLooks := .later }
def CookieChecksUptoCardSaid : Prop := Claim7.holds Tryd.pinned (.plain (OpenSpec.upto cookieChecksSpec)) cookieChecksUptoCard

/-- THE SECOND FORM's CARD OF 'casematelaw23.CookieBits'. -/
def cookieBitsUptoCard : Claim7 := { stood := { row := cookieBitsUptoRow, standIns := [], harness := (true, "627c4ff3432d3758e5a8040cd9425e5ec7772d77635b900be260e099700453f9"), looks := false }, kinds := [], alts := [], laidByText := true, laidKinds := [.data, .data], laidTests := true, laidLooks := .later }
def CookieBitsUptoCardSaid : Prop := Claim7.holds Tryd.pinned (.plain (OpenSpec.upto cookieBitsSpec)) cookieBitsUptoCard

/-- THE SECOND FORM's CARD OF 'casematelaw23.CookieKnows'. -/
def cookieKnowsUptoCard : Claim7 := { stood := { row := cookieKnowsUptoRow, standIns := [], harness := (true, "627c4ff3432d3758e5a8040cd9425e5ec7772d77635b900be260e099700453f9"), looks := false }, kinds := [], alts := [], laidByText := true, laidKinds := [.data, .data, .data], laidTests := true, laidLooks := .later }
def CookieKnowsUptoCardSaid : Prop := Claim7.holds Tryd.pinned (.plain (OpenSpec.upto cookieKnowsSpec)) cookieKnowsUptoCard
end Rows
end Go.Proofs.YtdnboohhplnnhaaDoor
