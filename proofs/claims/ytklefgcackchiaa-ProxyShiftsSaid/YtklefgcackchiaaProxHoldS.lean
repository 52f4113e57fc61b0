/- ProxyShifts' walk in the form that the last step takes. -/
import Derived.Test.YtklefgcackchiaaProxShiftsW
import Derived.Test.YtklefgcackchiaaProxOpenS
namespace Go.Proofs.Ytklefgcackchiaa
open Go.RowKit
set_option linter.unusedVariables false
theorem ProxyShifts_walk (t u : Tcp.T) (s st : Int) (w : World) (ht : t.ok w) (hu : u.ok w) (h1 : 0 ≤ s ∧ s ≤ 4294967295) (h2 : 0 ≤ st ∧ st ≤ 4294967295) :
    Calls Try.prog 4 #[.agg t.cells.toArray, .agg u.cells.toArray, .agg #[.int .u32 s, .int .u32 st]] w fun e w' => e = .returned (.bool true) ∧ Below w.heap.size w w' :=
  shifts_walk t u s st w ht hu h1.1 h1.2 h2.1 h2.2
end Go.Proofs.Ytklefgcackchiaa
