/- IndexFull's walk in the form that the last step takes. -/
import Derived.Test.YtdfbfhejigifoaaIdxFullW
namespace Go.Proofs.Ytdfbfhejigifoaa
open Go.RowKit
set_option linter.unusedVariables false
theorem IndexFullW (b f p : Int) (w : World) (hb : (Lit.int .u8 b).wf = true) (hf : (Lit.int .u16 f).wf = true) (hp : (Lit.int .u8 p).wf = true) :
    Calls Try.prog 6 #[.int .u8 b, .int .u16 f, .int .u8 p] w fun e w' => e = .returned (.bool true) ∧ Below w.heap.size w w' :=
  IndexFull_walk b f p w (bounds_u8 hb) (bounds_u16 hf) (bounds_u8 hp)
end Go.Proofs.Ytdfbfhejigifoaa
