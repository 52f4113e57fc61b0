/- The walk of StateRight in the form that the last step takes. -/
import Derived.Test.YtliibpajgdncpaaStateRightW
import Derived.Test.YtliibpajgdncpaaConnOpen
namespace Go.Proofs.Ytliibpajgdncpaa
open Go.RowKit
theorem StateRight_walk (c : State.C) (sd : Int) (t : Tcp.T) (tcp : Int) (w : World) (hc : c.ok) (_ : (Lit.int .i64 sd).wf = true) (ht : t.ok w) (wt : (Lit.int .i64 tcp).wf = true) :
    Calls Try.prog 3 #[.agg c.cells.toArray, .int .i64 sd, .agg t.cells.toArray, .int .i64 tcp] w fun e w' => e = .returned (.bool true) ∧ Below w.heap.size w w' :=
  sr_walk c sd tcp t w hc ht (bounds_i64 wt).1 (bounds_i64 wt).2
end Go.Proofs.Ytliibpajgdncpaa
