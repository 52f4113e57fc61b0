/- The walks of RulesFirst in the form that the last step takes. -/
import Derived.Test.YtdocojhjknhjnaaRulesLaws
namespace Go.Proofs.Ytdocojhjknhjnaa
open Go.RowKit
set_option linter.unusedVariables false
theorem RulesFirst_walk (A : Option Addr) (n c : Nat) (l : List Rules.Rule) (fr to : Int) (t : Rules.Tup) (w : World) (hR : RdRow w A n l) (hr : ∀ r ∈ l, r.wf) (hnc : n ≤ c) (hc : c ≤ 9223372036854775807)
    (wf : (Lit.int .i64 fr).wf = true) (wt : (Lit.int .i64 to).wf = true) (ht : t.wf) :
    Calls Try.prog 3 #[.slice A n c, .int .i64 fr, .int .i64 to, .agg t.cells.toArray] w fun e w' => e = .returned (.bool true) ∧ Below w.heap.size w w' :=
  rules_first A n c l fr to t w hR hr ht hnc hc
end Go.Proofs.Ytdocojhjknhjnaa
