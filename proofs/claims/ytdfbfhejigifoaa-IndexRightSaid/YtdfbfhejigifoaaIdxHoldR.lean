/- IndexRight's walk in the form that the last step takes. -/
import Derived.Test.YtdfbfhejigifoaaIdxRightP
import Derived.Test.YtdfbfhejigifoaaIdxOpen
namespace Go.Proofs.Ytdfbfhejigifoaa
open Go.ChangeShapes Go.WideShapes Go.ChangeAt Go.RowKit Go.Deep
set_option linter.unusedVariables false
theorem IndexRightW (A : Option Addr) (n c : Nat) (l : List Idx.Cell) (k : Idx.Key) (x y : Int) (w : World) (hT : TabR w A n l) (hn : n ≤ c) (hc : c ≤ 9223372036854775807) (hk : k.wf) (hx : (Lit.int .i64 x).wf = true) (hy : (Lit.int .i64 y).wf = true) :
    Calls Try.prog 3 #[.slice A n c, .agg #[.int .i64 k.pr, .int .u32 k.sr, .int .i64 k.sp, .int .u32 k.ds, .int .i64 k.dp], .int .i64 x, .int .i64 y] w fun e w' => e = .returned (.bool true) ∧ Below w.heap.size w w' :=
  IndexRight_walk A n c l k x y w hT (by omega) hk (bounds_i64 hy).1 (bounds_i64 hy).2
end Go.Proofs.Ytdfbfhejigifoaa
