/- ProxyNone's walk in the form that the last step takes. -/
import Derived.Test.YtklefgcackchiaaProxNoneW
import Derived.Test.YtklefgcackchiaaProxOpenS
namespace Go.Proofs.Ytklefgcackchiaa
open Go.RowKit
set_option linter.unusedVariables false
theorem ProxyNone_walk (t : Tcp.T) (s st q qt : Int) (w : World) (ht : t.ok w) (h1 : 0 ≤ s ∧ s ≤ 4294967295) (h2 : 0 ≤ st ∧ st ≤ 4294967295) (h3 : 0 ≤ q ∧ q ≤ 4294967295) (h4 : 0 ≤ qt ∧ qt ≤ 4294967295) :
    Calls Try.prog 3 #[.agg t.cells.toArray, .agg #[.int .u32 s, .int .u32 st], .agg #[.int .u32 q, .int .u32 qt]] w fun e w' => e = .returned (.bool true) ∧ Below w.heap.size w w' :=
  none_walk t s st q qt w ht h1.1 h1.2 h2.1 h2.2 h3.1 h3.2 h4.1 h4.2
end Go.Proofs.Ytklefgcackchiaa
