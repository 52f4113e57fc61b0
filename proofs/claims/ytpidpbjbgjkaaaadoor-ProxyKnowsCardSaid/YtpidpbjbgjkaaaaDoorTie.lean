/-
  DERIVED. GIVEN WITH THE SEED: THE PROGRAM's TIES (one call each: nine closed facts by the kernel) AND EACH ROW's TIE, after the 31st guide's Derived/Test/Toyas{Tie, Card}.lean. No idea stands in it: it is a product of the set-up. Laid BY PROGRAM, IN A SANDBOX (cutbox-door.mjs). By AI agents, Wed Nov 11 2026. No macro, syntax, notation, axiom, sorry.
-/
import Derived.Test.YtpidpbjbgjkaaaaDoorRows
import Derived.LaidByTextLater
import Derived.SevenTiedAt
import Derived.LaidSub
import Derived.LaidOnce
namespace Go.Proofs.YtpidpbjbgjkaaaaDoor
open Go
set_option maxRecDepth 100000
theorem seatTie1 : Tryd.prog.laidByTextLater [("casemate/casemateref21.k", Rows.laid_casemate_casemateref21_k), ("casemate/sha.rounds", Rows.laid_casemate_sha_rounds), ("casemate/sha.first", Rows.laid_casemate_sha_first)] [.data, .data, .data] true :=
  Program.laidByTextLater_by_one 24 8 65 (by kernel_rfl) (by kernel_rfl) (by kernel_rfl) (by kernel_rfl) (by kernel_rfl) (by kernel_rfl) (fun _ _ => by kernel_rfl)
theorem noOwnUnsafe : Tryd.pinned.checked.prog.headLifts.contains "ownunsafe" = false := by kernel_rfl
theorem tie : Tryd.prog.laidByTextLater [("casemate/casemateref21.k", Rows.laid_casemate_casemateref21_k), ("casemate/sha.rounds", Rows.laid_casemate_sha_rounds), ("casemate/sha.first", Rows.laid_casemate_sha_first)] [.data, .data, .data] true :=
  Program.laidByTextLater.sub seatTie1 ["casemate/casemateref21.k", "casemate/sha.rounds", "casemate/sha.first"] (by kernel_rfl) (by kernel_rfl)
theorem proxyRight_row_tie : Rows.proxyRightRow.laidByTextAt .later Tryd.pinned [.data, .data, .data] true :=
  OpenClaim.laidByTextAt_later rfl rfl tie noOwnUnsafe
theorem tie2 : Tryd.prog.laidByTextLater [("casemate/sha.rounds", Rows.laid_casemate_sha_rounds), ("casemate/sha.first", Rows.laid_casemate_sha_first)] [.data, .data] true :=
  Program.laidByTextLater.sub seatTie1 ["casemate/sha.rounds", "casemate/sha.first"] (by kernel_rfl) (by kernel_rfl)
theorem proxyKnows_row_tie : Rows.proxyKnowsRow.laidByTextAt .later Tryd.pinned [.data, .data] true :=
  OpenClaim.laidByTextAt_later rfl rfl tie2 noOwnUnsafe
theorem proxyRightUpto_row_tie : Rows.proxyRightUptoRow.laidByTextAt .later Tryd.pinned [.data, .data, .data] true :=
  OpenClaim.laidByTextAt_later rfl rfl tie noOwnUnsafe
theorem proxyKnowsUpto_row_tie : Rows.proxyKnowsUptoRow.laidByTextAt .later Tryd.pinned [.data, .data] true :=
  OpenClaim.laidByTextAt_later rfl rfl tie2 noOwnUnsafe
end Go.Proofs.YtpidpbjbgjkaaaaDoor
