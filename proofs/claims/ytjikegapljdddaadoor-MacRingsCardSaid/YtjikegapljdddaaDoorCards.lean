/-
  DERIVED. GIVEN WITH THE SEED: THE CARDS: each row of YtjikegapljdddaaDoorRows.lean that lists a variable, with what it lists TIED to the program's text (the seventh form; the later family's looks); each row that meets fmt, with fmt's text TOLD by the authors' own Lean function (tested against real Go, not proved from fmt's source: count such statements apart). THE CARD IS WHAT COUNTS. Prove the row's statement (the work); the ties are given (YtjikegapljdddaaDoorTie.lean); close each card by the builder's one call (the guide's Derived/Test/ToyasCard.lean, 'card_holds'). Laid BY PROGRAM, IN A SANDBOX (cutbox-door.mjs). By AI agents, Wed Nov 11 2026. No macro, syntax, notation, axiom, sorry.
-/
import Derived.Test.YtjikegapljdddaaDoorRows
import GoSem.ClaimSeven
namespace Go.Proofs.YtjikegapljdddaaDoor
namespace Rows

/-- THE TIED CARD OF 'casematelaw21.ShaSizes'. -/
def shaSizesCard : Claim7 := { stood := { row := shaSizesRow, standIns := [], harness := (true, "44f296bd290514b9ce78e959dd38fe927308aed550ac661c9b131579905f8c79"), looks := false }, kinds := [], alts := [], laidByText := true, laidKinds := [.data, .data, .data], laidTests := true, laidLooks := .later }
def ShaSizesCardSaid : Prop := Claim7.holds Tryd.pinned (.plain (OpenSpec.ofChange shaSizesSpec)) shaSizesCard

/-- THE TIED CARD OF 'casematelaw21.ShaRight'. -/
def shaRightCard : Claim7 := { stood := { row := shaRightRow, standIns := [], harness := (true, "44f296bd290514b9ce78e959dd38fe927308aed550ac661c9b131579905f8c79"), looks := false }, kinds := [], alts := [], laidByText := true, laidKinds := [.data, .data, .data], laidTests := true, laidLooks := .later }
def ShaRightCardSaid : Prop := Claim7.holds Tryd.pinned (.plain (OpenSpec.ofChange shaRightSpec)) shaRightCard

/-- THE TIED CARD OF 'casematelaw22.MacKeys'. -/
def macKeysCard : Claim7 := { stood := { row := macKeysRow, standIns := [], harness := (true, "44f296bd290514b9ce78e959dd38fe927308aed550ac661c9b131579905f8c79"), looks := false }, kinds := [], alts := [], laidByText := true, laidKinds := [.data, .data], laidTests := true, laidLooks := .later }
def MacKeysCardSaid : Prop := Claim7.holds Tryd.pinned (.plain (OpenSpec.ofChange macKeysSpec)) macKeysCard

/-- THE TIED CARD OF 'casematelaw22.MacRight'. -/
def macRightCard : Claim7 := { stood := { row := macRightRow, standIns := [], harness := (true, "44f296bd290514b9ce78e959dd38fe927308aed550ac661c9b131579905f8c79"), looks := false }, kinds := [], alts := [], laidByText := true, laidKinds := [.data, .data, .data], laidTests := true, laidLooks := .later }
def MacRightCardSaid : Prop := Claim7.holds Tryd.pinned (.plain (OpenSpec.ofChange macRightSpec)) macRightCard

/-- THE TIED CARD OF 'casematelaw22.MacRings'. -/
def macRingsCard : Claim7 := { stood := { row := macRingsRow, standIns := [], harness := (true, "44f296bd290514b9ce78e959dd38fe927308aed550ac661c9b131579905f8c79"), looks := false }, kinds := [], alts := [], laidByText := true, laidKinds := [.data, .data, .data], laidTests := true, laidLooks := .later }
def MacRingsCardSaid : Prop := Claim7.holds Tryd.pinned (.plain (OpenSpec.ofChange macRingsSpec)) macRingsCard

/-- THE TIED CARD OF 'casematelaw22.MacTurns'. -/
def macTurnsCard : Claim7 := { stood := { row := macTurnsRow, standIns := [], harness := (true, "44f296bd290514b9ce78e959dd38fe927308aed550ac661c9b131579905f8c79"), looks := false }, kinds := [], alts := [], laidByText := true, laidKinds := [.data, .data], laidTests := true, laidLooks := .later }
def MacTurnsCardSaid : Prop := Claim7.holds Tryd.pinned (.plain (OpenSpec.ofChange macTurnsSpec)) macTurnsCard

/-- THE SECOND FORM's CARD OF 'casematelaw21.ShaSizes'. -/
def shaSizesUptoCard : Claim7 := { stood := { row := shaSizesUptoRow, standIns := [], harness := (true, "44f296bd290514b9ce78e959dd38fe927308aed550ac661c9b131579905f8c79"), looks := false }, kinds := [], alts := [], laidByText := true, laidKinds := [.data, .data, .data], laidTests := true, laidLooks := .later }
def ShaSizesUptoCardSaid : Prop := Claim7.holds Tryd.pinned (.plain (OpenSpec.upto shaSizesSpec)) shaSizesUptoCard

/-- THE SECOND FORM's CARD OF 'casematelaw21.ShaRight'. -/
def shaRightUptoCard : Claim7 := { stood := { row := shaRightUptoRow, standIns := [], harness := (true, "44f296bd290514b9ce78e959dd38fe927308aed550ac661c9b131579905f8c79"), looks := false }, kinds := [], alts := [], laidByText := true, laidKinds := [.data, .data, .data], laidTests := true, laidLooks := .later }
def ShaRightUptoCardSaid : Prop := Claim7.holds Tryd.pinned (.plain (OpenSpec.upto shaRightSpec)) shaRightUptoCard

/-- THE SECOND FORM's CARD OF 'casematelaw22.MacKeys'. -/
def macKeysUptoCard : Claim7 := { stood := { row := macKeysUptoRow, standIns := [], harness := (true, "44f296bd290514b9ce78e959dd38fe927308aed550ac661c9b131579905f8c79"), looks := false }, kinds := [], alts := [], laidByText := true, laidKinds := [.data, .data], laidTests := true, laidLooks := .later }
def MacKeysUptoCardSaid : Prop := Claim7.holds Tryd.pinned (.plain (OpenSpec.upto macKeysSpec)) macKeysUptoCard

/-- THE SECOND FORM's CARD OF 'casematelaw22.MacRight'. -/
def macRightUptoCard : Claim7 := { stood := { row := macRightUptoRow, standIns := [], harness := (true, "44f296bd290514b9ce78e959dd38fe927308aed550ac661c9b131579905f8c79"), looks := false }, kinds := [], alts := [], laidByText := true, laidKinds := [.data, .data, .data], laidTests := true, laidLooks := .later }
def MacRightUptoCardSaid : Prop := Claim7.holds Tryd.pinned (.plain (OpenSpec.upto macRightSpec)) macRightUptoCard

/-- THE SECOND FORM's CARD OF 'casematelaw22.MacRings'. -/
def macRingsUptoCard : Claim7 := { stood := { row := macRingsUptoRow, standIns := [], harness := (true, "44f296bd290514b9ce78e959dd38fe927308aed550ac661c9b131579905f8c79"), looks := false }, kinds := [], alts := [], laidByText := true, laidKinds := [.data, .data, .data], laidTests := true, laidLooks := .later }
def MacRingsUptoCardSaid : Prop := Claim7.holds Tryd.pinned (.plain (OpenSpec.upto macRingsSpec)) macRingsUptoCard

/-- THE SECOND FORM's CARD OF 'casematelaw22.MacTurns'. -/
def macTurnsUptoCard : Claim7 := { stood := { row := macTurnsUptoRow, standIns := [], harness := (true, "44f296bd290514b9ce78e959dd38fe927308aed550ac661c9b131579905f8c79"), looks := false }, kinds := [], alts := [], laidByText := true, laidKinds := [.data, .data], laidTests := true, laidLooks := .later }
def MacTurnsUptoCardSaid : Prop := Claim7.holds Tryd.pinned (.plain (OpenSpec.upto macTurnsSpec)) macTurnsUptoCard
end Rows
end Go.Proofs.YtjikegapljdddaaDoor
