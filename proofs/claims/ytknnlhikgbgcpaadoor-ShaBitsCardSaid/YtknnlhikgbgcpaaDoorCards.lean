/-
  DERIVED. GIVEN WITH THE SEED: THE CARDS: each row of YtknnlhikgbgcpaaDoorRows.lean that lists a variable, with what it lists TIED to the program's text (the seventh form; the later family's looks); each row that meets fmt, with fmt's text TOLD by the authors' own Lean function (tested against real Go, not proved from fmt's source: count such statements apart). THE CARD IS WHAT COUNTS. Prove the row's statement (the work); the ties are given (YtknnlhikgbgcpaaDoorTie.lean); close each card by the builder's one call (the guide's Derived/Test/ToyasCard.lean, 'card_holds'). Laid BY PROGRAM, IN A SANDBOX (cutbox-door.mjs). By AI agents, Wed Nov 11 2026. No macro, syntax, notation, axiom, sorry.
-/
import Derived.Test.YtknnlhikgbgcpaaDoorRows
import GoSem.ClaimSeven
namespace Go.Proofs.YtknnlhikgbgcpaaDoor
namespace Rows

/-- THE TIED CARD OF 'casematelaw21.ShaSizes'. -/
def shaSizesCard : Claim7 := { stood := { row := shaSizesRow, standIns := [], harness := (true, "6385b6b592524639d0683b21a8bdd1d2e29a1ed1780034e3ed802d2a067f2d6b"), looks := false }, kinds := [], alts := [], laidByText := true, laidKinds := [.data, .data, .data], laidTests := true, laidLooks := .later }
def ShaSizesCardSaid : Prop := Claim7.holds Tryd.pinned (.plain (OpenSpec.ofChange shaSizesSpec)) shaSizesCard

/-- THE TIED CARD OF 'casematelaw21.ShaRight'. -/
def shaRightCard : Claim7 := { stood := { row := shaRightRow, standIns := [], harness := (true, "6385b6b592524639d0683b21a8bdd1d2e29a1ed1780034e3ed802d2a067f2d6b"), looks := false }, kinds := [], alts := [], laidByText := true, laidKinds := [.data, .data, .data], laidTests := true, laidLooks := .later }
def ShaRightCardSaid : Prop := Claim7.holds Tryd.pinned (.plain (OpenSpec.ofChange shaRightSpec)) shaRightCard

/-- THE TIED CARD OF 'casematelaw21.ShaBits'. -/
def shaBitsCard : Claim7 := { stood := { row := shaBitsRow, standIns := [], harness := (true, "6385b6b592524639d0683b21a8bdd1d2e29a1ed1780034e3ed802d2a067f2d6b"), looks := false }, kinds := [], alts := [], laidByText := true, laidKinds := [.data, .data], laidTests := true, laidLooks := .later }
def ShaBitsCardSaid : Prop := Claim7.holds Tryd.pinned (.plain (OpenSpec.ofChange shaBitsSpec)) shaBitsCard

/-- THE TIED CARD OF 'casematelaw22.MacKeys'. -/
def macKeysCard : Claim7 := { stood := { row := macKeysRow, standIns := [], harness := (true, "6385b6b592524639d0683b21a8bdd1d2e29a1ed1780034e3ed802d2a067f2d6b"), looks := false }, kinds := [], alts := [], laidByText := true, laidKinds := [.data, .data], laidTests := true, laidLooks := .later }
def MacKeysCardSaid : Prop := Claim7.holds Tryd.pinned (.plain (OpenSpec.ofChange macKeysSpec)) macKeysCard

/-- THE TIED CARD OF 'casematelaw22.MacRight'. -/
def macRightCard : Claim7 := { stood := { row := macRightRow, standIns := [], harness := (true, "6385b6b592524639d0683b21a8bdd1d2e29a1ed1780034e3ed802d2a067f2d6b"), looks := false }, kinds := [], alts := [], laidByText := true, laidKinds := [.data, .data, .data], laidTests := true, laidLooks := .later }
def MacRightCardSaid : Prop := Claim7.holds Tryd.pinned (.plain (OpenSpec.ofChange macRightSpec)) macRightCard

/-- THE TIED CARD OF 'casematelaw22.MacRings'. -/
def macRingsCard : Claim7 := { stood := { row := macRingsRow, standIns := [], harness := (true, "6385b6b592524639d0683b21a8bdd1d2e29a1ed1780034e3ed802d2a067f2d6b"), looks := false }, kinds := [], alts := [], laidByText := true, laidKinds := [.data, .data, .data], laidTests := true, laidLooks := .later }
def MacRingsCardSaid : Prop := Claim7.holds Tryd.pinned (.plain (OpenSpec.ofChange macRingsSpec)) macRingsCard

/-- THE TIED CARD OF 'casematelaw22.MacTurns'. -/
def macTurnsCard : Claim7 := { stood := { row := macTurnsRow, standIns := [], harness := (true, "6385b6b592524639d0683b21a8bdd1d2e29a1ed1780034e3ed802d2a067f2d6b"), looks := false }, kinds := [], alts := [], laidByText := true, laidKinds := [.data, .data], laidTests := true, laidLooks := .later }
def MacTurnsCardSaid : Prop := Claim7.holds Tryd.pinned (.plain (OpenSpec.ofChange macTurnsSpec)) macTurnsCard

/-- THE TIED CARD OF 'casematelaw23.CookieRight'. -/
def cookieRightCard : Claim7 := { stood := { row := cookieRightRow, standIns := [], harness := (true, "6385b6b592524639d0683b21a8bdd1d2e29a1ed1780034e3ed802d2a067f2d6b"), looks := false }, kinds := [], alts := [], laidByText := true, laidKinds := [.data, .data, .data], laidTests := true, laidLooks := .later }
def CookieRightCardSaid : Prop := Claim7.holds Tryd.pinned (.plain (OpenSpec.ofChange cookieRightSpec)) cookieRightCard

/-- THE TIED CARD OF 'casematelaw23.CookieChecks'. -/
def cookieChecksCard : Claim7 := { stood := { row := cookieChecksRow, standIns := [], harness := (true, "6385b6b592524639d0683b21a8bdd1d2e29a1ed1780034e3ed802d2a067f2d6b"), looks := false }, kinds := [], alts := [], laidByText := true, laidKinds := [.data, .data, .data], laidTests := true, laidLooks := .later }
def CookieChecksCardSaid : Prop := Claim7.holds Tryd.pinned (.plain (OpenSpec.ofChange cookieChecksSpec)) cookieChecksCard

/-- THE TIED CARD OF 'casematelaw23.CookieBits'. -/
def cookieBitsCard : Claim7 := { stood := { row := cookieBitsRow, standIns := [], harness := (true, "6385b6b592524639d0683b21a8bdd1d2e29a1ed1780034e3ed802d2a067f2d6b"), looks := false }, kinds := [], alts := [], laidByText := true, laidKinds := [.data, .data], laidTests := true, laidLooks := .later }
def CookieBitsCardSaid : Prop := Claim7.holds Tryd.pinned (.plain (OpenSpec.ofChange cookieBitsSpec)) cookieBitsCard

/-- THE TIED CARD OF 'casematelaw23.CookieKnows'. -/
def cookieKnowsCard : Claim7 := { stood := { row := cookieKnowsRow, standIns := [], harness := (true, "6385b6b592524639d0683b21a8bdd1d2e29a1ed1780034e3ed802d2a067f2d6b"), looks := false }, kinds := [], alts := [], laidByText := true, laidKinds := [.data, .data, .data], laidTests := true, laidLooks := .later }
def CookieKnowsCardSaid : Prop := Claim7.holds Tryd.pinned (.plain (OpenSpec.ofChange cookieKnowsSpec)) cookieKnowsCard

/-- THE TIED CARD OF 'casematelaw24.ProxyRight'. -/
def proxyRightCard : Claim7 := { stood := { row := proxyRightRow, standIns := [], harness := (true, "6385b6b592524639d0683b21a8bdd1d2e29a1ed1780034e3ed802d2a067f2d6b"), looks := false }, kinds := [], alts := [], laidByText := true, laidKinds := [.data, .data, .data], laidTests := true, laidLooks := .later }
def ProxyRightCardSaid : Prop := Claim7.holds Tryd.pinned (.plain (OpenSpec.ofChange proxyRightSpec)) proxyRightCard

/-- THE TIED CARD OF 'casematelaw24.ProxyKnows'. -/
def proxyKnowsCard : Claim7 := { stood := { row := proxyKnowsRow, standIns := [], harness := (true, "6385b6b592524639d0683b21a8bdd1d2e29a1ed1780034e3ed802d2a067f2d6b"), looks := false }, kinds := [], alts := [], laidByText := true, laidKinds := [.data, .data], laidTests := true, laidLooks := .later }
def ProxyKnowsCardSaid : Prop := Claim7.holds Tryd.pinned (.plain (OpenSpec.ofChange proxyKnowsSpec)) proxyKnowsCard

/-- THE SECOND FORM's CARD OF 'casematelaw21.ShaSizes'. -/
def shaSizesUptoCard : Claim7 := { stood := { row := shaSizesUptoRow, standIns := [], harness := (true, "6385b6b592524639d0683b21a8bdd1d2e29a1ed1780034e3ed802d2a067f2d6b"), looks := false }, kinds := [], alts := [], laidByText := true, laidKinds := [.data, .data, .data], laidTests := true, laidLooks := .later }
def ShaSizesUptoCardSaid : Prop := Claim7.holds Tryd.pinned (.plain (OpenSpec.upto shaSizesSpec)) shaSizesUptoCard

/-- THE SECOND FORM's CARD OF 'casematelaw21.ShaRight'. -/
def shaRightUptoCard : Claim7 := { stood := { row := shaRightUptoRow, standIns := [], harness := (true, "6385b6b592524639d0683b21a8bdd1d2e29a1ed1780034e3ed802d2a067f2d6b"), looks := false }, kinds := [], alts := [], laidByText := true, laidKinds := [.data, .data, .data], laidTests := true, laidLooks := .later }
def ShaRightUptoCardSaid : Prop := Claim7.holds Tryd.pinned (.plain (OpenSpec.upto shaRightSpec)) shaRightUptoCard

/-- THE SECOND FORM's CARD OF 'casematelaw21.ShaBits'. -/
def shaBitsUptoCard : Claim7 := { stood := { row := shaBitsUptoRow, standIns := [], harness := (true, "6385b6b592524639d0683b21a8bdd1d2e29a1ed1780034e3ed802d2a067f2d6b"), looks := false }, kinds := [], alts := [], laidByText := true, laidKinds := [.data, .data], laidTests := true, laidLooks := .later }
def ShaBitsUptoCardSaid : Prop := Claim7.holds Tryd.pinned (.plain (OpenSpec.upto shaBitsSpec)) shaBitsUptoCard

/-- THE SECOND FORM's CARD OF 'casematelaw22.MacKeys'. -/
def macKeysUptoCard : Claim7 := { stood := { row := macKeysUptoRow, standIns := [], harness := (true, "6385b6b592524639d0683b21a8bdd1d2e29a1ed1780034e3ed802d2a067f2d6b"), looks := false }, kinds := [], alts := [], laidByText := true, laidKinds := [.data, .data], laidTests := true, laidLooks := .later }
def MacKeysUptoCardSaid : Prop := Claim7.holds Tryd.pinned (.plain (OpenSpec.upto macKeysSpec)) macKeysUptoCard

/-- THE SECOND FORM's CARD OF 'casematelaw22.MacRight'. -/
def macRightUptoCard : Claim7 := { stood := { row := macRightUptoRow, standIns := [], harness := (true, "6385b6b592524639d0683b21a8bdd1d2e29a1ed1780034e3ed802d2a067f2d6b"), looks := false }, kinds := [], alts := [], laidByText := true, laidKinds := [.data, .data, .data], laidTests := true, laidLooks := .later }
def MacRightUptoCardSaid : Prop := Claim7.holds Tryd.pinned (.plain (OpenSpec.upto macRightSpec)) macRightUptoCard

/-- THE SECOND FORM's CARD OF 'casematelaw22.MacRings'. -/
def macRingsUptoCard : Claim7 := { stood := { row := macRingsUptoRow, standIns := [], harness := (true, "6385b6b592524639d0683b21a8bdd1d2e29a1ed1780034e3ed802d2a067f2d6b"), looks := false }, kinds := [], alts := [], laidByText := true, laidKinds := [.data, .data, .data], laidTests := true, laidLooks := .later }
def MacRingsUptoCardSaid : Prop := Claim7.holds Tryd.pinned (.plain (OpenSpec.upto macRingsSpec)) macRingsUptoCard

/-- THE SECOND FORM's CARD OF 'casematelaw22.MacTurns'. -/
def macTurnsUptoCard : Claim7 := { stood := { row := macTurnsUptoRow, standIns := [], harness := (true, "6385b6b592524639d0683b21a8bdd1d2e29a1ed1780034e3ed802d2a067f2d6b"), looks := false }, kinds := [], alts := [], laidByText := true, laidKinds := [.data, .data], laidTests := true, laidLooks := .later }
def MacTurnsUptoCardSaid : Prop := Claim7.holds Tryd.pinned (.plain (OpenSpec.upto macTurnsSpec)) macTurnsUptoCard

/-- THE SECOND FORM's CARD OF 'casematelaw23.CookieRight'. -/
def cookieRightUptoCard : Claim7 := { stood := { row := cookieRightUptoRow, standIns := [], harness := (true, "6385b6b592524639d0683b21a8bdd1d2e29a1ed1780034e3ed802d2a067f2d6b"), looks := false }, kinds := [], alts := [], laidByText := true, laidKinds := [.data, .data, .data], laidTests := true, laidLooks := .later }
def CookieRightUptoCardSaid : Prop := Claim7.holds Tryd.pinned (.plain (OpenSpec.upto cookieRightSpec)) cookieRightUptoCard

/-- THE SECOND FORM's CARD OF 'casematelaw23.CookieChecks'. -/
def cookieChecksUptoCard : Claim7 := { stood := { row := cookieChecksUptoRow, standIns := [], harness := (true, "6385b6b592524639d0683b21a8bdd1d2e29a1ed1780034e3ed802d2a067f2d6b"), looks := false }, kinds := [], alts := [], laidByText := true, laidKinds := [.data, .data, .data], laidTests := true, laidLooks := .later }
def CookieChecksUptoCardSaid : Prop := Claim7.holds Tryd.pinned (.plain (OpenSpec.upto cookieChecksSpec)) cookieChecksUptoCard

/-- THE SECOND FORM's CARD OF 'casematelaw23.CookieBits'. -/
def cookieBitsUptoCard : Claim7 := { stood := { row := cookieBitsUptoRow, standIns := [], harness := (true, "6385b6b592524639d0683b21a8bdd1d2e29a1ed1780034e3ed802d2a067f2d6b"), looks := false }, kinds := [], alts := [], laidByText := true, laidKinds := [.data, .data], laidTests := true, laidLooks := .later }
def CookieBitsUptoCardSaid : Prop := Claim7.holds Tryd.pinned (.plain (OpenSpec.upto cookieBitsSpec)) cookieBitsUptoCard

/-- THE SECOND FORM's CARD OF 'casematelaw23.CookieKnows'. -/
def cookieKnowsUptoCard : Claim7 := { stood := { row := cookieKnowsUptoRow, standIns := [], harness := (true, "6385b6b592524639d0683b21a8bdd1d2e29a1ed1780034e3ed802d2a067f2d6b"), looks := false }, kinds := [], alts := [], laidByText := true, laidKinds := [.data, .data, .data], laidTests := true, laidLooks := .later }
def CookieKnowsUptoCardSaid : Prop := Claim7.holds Tryd.pinned (.plain (OpenSpec.upto cookieKnowsSpec)) cookieKnowsUptoCard

/-- THE SECOND FORM's CARD OF 'casematelaw24.ProxyRight'. -/
def proxyRightUptoCard : Claim7 := { stood := { row := proxyRightUptoRow, standIns := [], harness := (true, "6385b6b592524639d0683b21a8bdd1d2e29a1ed1780034e3ed802d2a067f2d6b"), looks := false }, kinds := [], alts := [], laidByText := true, laidKinds := [.data, .data, .data], laidTests := true, laidLooks := .later }
def ProxyRightUptoCardSaid : Prop := Claim7.holds Tryd.pinned (.plain (OpenSpec.upto proxyRightSpec)) proxyRightUptoCard

/-- THE SECOND FORM's CARD OF 'casematelaw24.ProxyKnows'. -/
def proxyKnowsUptoCard : Claim7 := { stood := { row := proxyKnowsUptoRow, standIns := [], harness := (true, "6385b6b592524639d0683b21a8bdd1d2e29a1ed1780034e3ed802d2a067f2d6b"), looks := false }, kinds := [], alts := [], laidByText := true, laidKinds := [.data, .data], laidTests := true, laidLooks := .later }
def ProxyKnowsUptoCardSaid : Prop := Claim7.holds Tryd.pinned (.plain (OpenSpec.upto proxyKnowsSpec)) proxyKnowsUptoCard
end Rows
end Go.Proofs.YtknnlhikgbgcpaaDoor
