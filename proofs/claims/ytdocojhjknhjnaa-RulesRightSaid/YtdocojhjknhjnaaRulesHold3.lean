/- The walk of RulesRight in the form that the last step takes. -/
import Derived.Test.YtdocojhjknhjnaaRulesRightW
namespace Go.Proofs.Ytdocojhjknhjnaa
open Go.RowKit
set_option linter.unusedVariables false
theorem RulesRight_walk (A : Option Addr) (n c : Nat) (l : List Rules.Rule) (r : Rules.Rule) (fr to : Int) (t : Rules.Tup) (w : World) (hR : RdRow w A n l) (hr : ∀ r ∈ l, r.wf) (hnc : n ≤ c) (hc : c ≤ 9223372036854775807) (hrr : r.wf)
    (wf : (Lit.int .i64 fr).wf = true) (wt : (Lit.int .i64 to).wf = true) (ht : t.wf) :
    Calls Try.prog 6 #[.slice A n c, .agg r.cells.toArray, .int .i64 fr, .int .i64 to, .agg t.cells.toArray] w fun e w' => e = .returned (.bool true) ∧ Below w.heap.size w w' :=
  rules_right A n c l r fr to t w hR hr hrr ht hnc hc
end Go.Proofs.Ytdocojhjknhjnaa
