/- PeerDeaf's walk in the form that the last step takes. -/
import Derived.Test.YtihhcalgjkkalaaPeerLaw2
import Derived.Test.YtihhcalgjkkalaaPeerOpen
namespace Go.Proofs.Ytihhcalgjkkalaa
open Go.RowKit
set_option linter.unusedVariables false
theorem PeerDeaf_walk (p : Peer.P) (t : Tcp.T) (kd : Int) (w : World) (hp : p.ok w) (ht : t.ok w) (wk : (Lit.int .u8 kd).wf = true) :
    Calls Try.prog 4 #[.agg p.cells.toArray, .agg t.cells.toArray, .int .u8 kd] w fun e w' => e = .returned (.bool true) ∧ Below w.heap.size w w' := by
  have hk := bounds_u8 wk
  exact peerdeaf_walk p t kd w hp ht hk.1 hk.2
end Go.Proofs.Ytihhcalgjkkalaa
