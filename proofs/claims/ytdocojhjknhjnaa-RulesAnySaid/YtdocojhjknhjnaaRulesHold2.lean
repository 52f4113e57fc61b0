/- The walks of RulesAny in the form that the last step takes. -/
import Derived.Test.YtdocojhjknhjnaaRulesAnyW
namespace Go.Proofs.Ytdocojhjknhjnaa
open Go.RowKit
set_option linter.unusedVariables false
theorem RulesAny_walk (fr to : Int) (t : Rules.Tup) (pb : Int) (act : Bool) (w : World) (wf : (Lit.int .i64 fr).wf = true) (wt : (Lit.int .i64 to).wf = true) (ht : t.wf) (wp : (Lit.int .u8 pb).wf = true) :
    Calls Try.prog 5 #[.int .i64 fr, .int .i64 to, .agg t.cells.toArray, .int .u8 pb, .bool act] w fun e w' => e = .returned (.bool true) ∧ Below w.heap.size w w' :=
  rules_any fr to t pb act w ht (bounds_u8 wp).1 (bounds_u8 wp).2
end Go.Proofs.Ytdocojhjknhjnaa
