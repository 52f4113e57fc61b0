/- IndexBack's walk in the form that the last step takes. -/
import Derived.Test.YtdfbfhejigifoaaIdxBackW
namespace Go.Proofs.Ytdfbfhejigifoaa
open Go.RowKit
set_option linter.unusedVariables false
theorem IndexBackW (A : Option Addr) (n c : Nat) (l : List Idx.Cell) (k : Idx.Key) (x : Int) (w : World) (hT : TabR w A n l) (hn : n ≤ c) (hc : c ≤ 9223372036854775807) (hk : k.wf) (hx : (Lit.int .i64 x).wf = true) :
    Calls Try.prog 5 #[.slice A n c, .agg #[.int .i64 k.pr, .int .u32 k.sr, .int .i64 k.sp, .int .u32 k.ds, .int .i64 k.dp], .int .i64 x] w fun e w' => e = .returned (.bool true) ∧ Below w.heap.size w w' :=
  IndexBack_walk A n c l k x w hT (by omega) hk
end Go.Proofs.Ytdfbfhejigifoaa
