/- The walk of StateCloses in the form that the last step takes. -/
import Derived.Test.YtliibpajgdncpaaStateClosesW
import Derived.Test.YtliibpajgdncpaaOpenS
namespace Go.Proofs.Ytliibpajgdncpaa
open Go.RowKit
theorem StateCloses_walk (a b : Int) (f : Bool) (w : World) (wa : (Lit.int .u32 a).wf = true) (wb : (Lit.int .u32 b).wf = true) :
    Calls Try.prog 6 #[.int .u32 a, .int .u32 b, .bool f] w fun e w' => e = .returned (.bool true) ∧ Below w.heap.size w w' := by
  cases f
  · exact closes_walk0 a b w (bounds_u32 wa) (bounds_u32 wb)
  · exact closes_walk1 a b w (bounds_u32 wa) (bounds_u32 wb)
end Go.Proofs.Ytliibpajgdncpaa
