/- MacRight, MacKeys: their walks at arguments that came in. -/
import Derived.Test.YtjikegapljdddaaDoorMacLaw1
namespace Go.Proofs.YtjikegapljdddaaDoor
open Go.RowKit
set_option linter.unusedVariables false
theorem cell_lt {w : World} {g i : Nat} {v : Value} (h : w.cell? ⟨g, i, none⟩ = some v) : g < w.heap.size := by
  rcases Nat.lt_or_ge g w.heap.size with h1 | h1
  · exact h1
  · exfalso
    unfold World.cell? at h
    rw [Array.getElem?_eq_none h1] at h
    simp at h
theorem MacRight_walk (A : Option Addr) (n c : Nat) (l : List Int) (A2 : Option Addr) (n2 c2 : Nat) (l2 : List Int) (k : Int) (w : World) (hT : Tabs w) (hK : TabK w) (hR : Rd w 1 A n (bs l)) (hB : isB l) (hnc : n ≤ c) (hn : c ≤ 9223372036854775807)
    (hR2 : Rd w 1 A2 n2 (bs l2)) (hB2 : isB l2) (hnc2 : n2 ≤ c2) (hn2 : c2 ≤ 9223372036854775807) (wk : (Lit.int .i64 k).wf = true) :
    Calls Tryd.prog 6 #[.slice A n c, .slice A2 n2 c2, .int .i64 k] w fun e w' => e = .returned (.bool true) ∧ Below w.heap.size w w' :=
  macright_walk A n c l A2 n2 c2 l2 k w hT hK hR hB hnc hn hR2 hB2 hnc2 hn2
theorem MacKeys_walk (A : Option Addr) (n c : Nat) (l : List Int) (A2 : Option Addr) (n2 c2 : Nat) (l2 : List Int) (k : Int) (w : World) (hT : Tabs w) (hR : Rd w 1 A n (bs l)) (hB : isB l) (hnc : n ≤ c) (hn : c ≤ 9223372036854775807)
    (hR2 : Rd w 1 A2 n2 (bs l2)) (hB2 : isB l2) (hnc2 : n2 ≤ c2) (hn2 : c2 ≤ 9223372036854775807) (wk : (Lit.int .u8 k).wf = true) :
    Calls Tryd.prog 5 #[.slice A n c, .slice A2 n2 c2, .int .u8 k] w fun e w' => e = .returned (.bool true) ∧ Below w.heap.size w w' := by
  obtain ⟨k0, k1⟩ := bounds_u8 wk
  exact mackeys_walk A n c l A2 n2 c2 l2 k w hT hR hB hnc hn hR2 hB2 hnc2 hn2 k0 k1
end Go.Proofs.YtjikegapljdddaaDoor
