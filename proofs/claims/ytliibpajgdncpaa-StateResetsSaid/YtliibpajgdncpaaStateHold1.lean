/- The walk of StateResets in the form that the last step takes. -/
import Derived.Test.YtliibpajgdncpaaStateResetsW
import Derived.Test.YtliibpajgdncpaaConnOpen
namespace Go.Proofs.Ytliibpajgdncpaa
open Go.RowKit
theorem StateResets_walk (c : State.C) (s : Int) (t u : Tcp.T) (w : World) (_ : c.ok) (ws : (Lit.int .u8 s).wf = true) (ht : t.ok w) (hu : u.ok w) :
    Calls Try.prog 5 #[.agg c.cells.toArray, .int .u8 s, .agg t.cells.toArray, .agg u.cells.toArray] w fun e w' => e = .returned (.bool true) ∧ Below w.heap.size w w' :=
  resets_walk c s t u w ht hu (bounds_u8 ws).1 (bounds_u8 ws).2
end Go.Proofs.Ytliibpajgdncpaa
