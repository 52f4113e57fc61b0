/- IndexMap's walk in the form that the last step takes. -/
import Derived.Test.YtdfbfhejigifoaaIdxMapW
import Derived.Test.YtdfbfhejigifoaaIdxOpen
namespace Go.Proofs.Ytdfbfhejigifoaa
open Go.ChangeShapes Go.WideShapes Go.ChangeAt Go.RowKit Go.Deep
set_option linter.unusedVariables false
theorem IndexMapW (x : Int) (A : Option Addr) (n c : Nat) (l : List Idx.Cell) (w : World) (hx : (Lit.int .i64 x).wf = true) (hT : TabR w A n l) (hn : n ≤ c) (hc : c ≤ 9223372036854775807) :
    Calls Try.prog 4 #[.int .i64 x, .slice A n c] w fun e w' => e = .returned (.bool true) ∧ Below w.heap.size w w' :=
  IndexMap_walk x A n c l w (bounds_i64 hx).1 (bounds_i64 hx).2 hT (by omega)
section
variable {H : Type} {enc : TypeId × Value → H} {w : World} {held : Bool}
theorem open_stepsA {r : Reach} {b0 : Nat} {v : Value} {d : DataW H} {p : List MemPlace} (hv : Value.okWide Try.prog w r b0 42 v) (h : DataW.Trod enc Try.prog w 0 (fun _ => true) held 42 v d p) :
    ∃ A n c, ∃ l : List Idx.Cell, v = .slice A n c ∧ TabR w A n l ∧ n ≤ c ∧ c ≤ 9223372036854775807 :=
  open_tab Try.underlying42 (by kernel_rfl) Try.underlying44 rfl rfl rfl rfl rfl rfl rfl rfl rfl hv h
end
end Go.Proofs.Ytdfbfhejigifoaa
