/- ShaRight, ShaSizes: their walks at arguments that came in. -/
import Derived.Test.YtjikegapljdddaaDoorShaLawR
namespace Go.Proofs.YtjikegapljdddaaDoor
open Go.RowKit
set_option linter.unusedVariables false
theorem cell_lt {w : World} {g i : Nat} {v : Value} (h : w.cell? ⟨g, i, none⟩ = some v) : g < w.heap.size := by
  rcases Nat.lt_or_ge g w.heap.size with h1 | h1
  · exact h1
  · exfalso
    unfold World.cell? at h
    rw [Array.getElem?_eq_none h1] at h
    simp at h
theorem ShaRight_walk (A : Option Addr) (n c : Nat) (l : List Int) (k : Int) (w : World) (hT : Tabs w) (hK : TabK w) (hR : Rd w 1 A n (bs l)) (hB : isB l) (hnc : n ≤ c) (hn : c ≤ 9223372036854775807) (wk : (Lit.int .i64 k).wf = true) :
    Calls Tryd.prog 4 #[.slice A n c, .int .i64 k] w fun e w' => e = .returned (.bool true) ∧ Below w.heap.size w w' :=
  sharight_walk A n c l k w hT hK hR hB hnc hn
theorem ShaSizes_walk (n x : Int) (w : World) (hT : Tabs w) (hK : TabK w) (wn : (Lit.int .u16 n).wf = true) (wx : (Lit.int .u8 x).wf = true) :
    Calls Tryd.prog 3 #[.int .u16 n, .int .u8 x] w fun e w' => e = .returned (.bool true) ∧ Below w.heap.size w w' := by
  obtain ⟨n0, n1⟩ := bounds_u16 wn
  obtain ⟨x0, x1⟩ := bounds_u8 wx
  exact shasizes_walk n x w hT hK n0 n1 x0 x1
end Go.Proofs.YtjikegapljdddaaDoor
