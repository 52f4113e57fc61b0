/- PeerMakes' walk in the form that the last step takes. -/
import Derived.Test.YtihhcalgjkkalaaPeerLaw1
import Derived.Test.YtihhcalgjkkalaaOpen
namespace Go.Proofs.Ytihhcalgjkkalaa
open Go.RowKit
set_option linter.unusedVariables false
theorem PeerMakes_walk (port to_ first win : Int) (A : Option Addr) (n c : Nat) (l : List Int) (w : World) (wp : (Lit.int .i64 port).wf = true) (wt : (Lit.int .i64 to_).wf = true) (wf : (Lit.int .u32 first).wf = true) (ww : (Lit.int .i64 win).wf = true) (hR : Rd w 1 A n (bs l)) (hB : isB l) (hn : n ≤ c) (hc : c ≤ 9223372036854775807) :
    Calls Try.prog 3 #[.int .i64 port, .int .i64 to_, .int .u32 first, .int .i64 win, .slice A n c] w fun e w' => e = .returned (.bool true) ∧ Below w.heap.size w w' := by
  by_cases h : 2000 < n
  · exact peermakes_long port to_ first win A n c w h
  · exact peermakes_walk port to_ first win A n c l w (bounds_u32 wf).1 (bounds_u32 wf).2 hR hB (by omega)
end Go.Proofs.Ytihhcalgjkkalaa
