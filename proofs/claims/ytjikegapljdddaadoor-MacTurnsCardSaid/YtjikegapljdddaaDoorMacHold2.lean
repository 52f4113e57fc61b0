/- MacTurns: its walk at arguments that came in. -/
import Derived.Test.YtjikegapljdddaaDoorMacLaw2
namespace Go.Proofs.YtjikegapljdddaaDoor
open Go.RowKit
set_option linter.unusedVariables false
theorem cell_lt {w : World} {g i : Nat} {v : Value} (h : w.cell? ⟨g, i, none⟩ = some v) : g < w.heap.size := by
  rcases Nat.lt_or_ge g w.heap.size with h1 | h1
  · exact h1
  · exfalso
    unfold World.cell? at h
    rw [Array.getElem?_eq_none h1] at h
    simp at h
theorem MacTurns_walk (A1 : Option Addr) (n1 c1 : Nat) (a : List Int) (A2 : Option Addr) (n2 c2 : Nat) (b : List Int) (A3 : Option Addr) (n3 c3 : Nat) (cc : List Int) (A4 : Option Addr) (n4 c4 : Nat) (tx : List Int) (k : Int) (w : World) (hT : Tabs w)
    (hR1 : Rd w 1 A1 n1 (bs a)) (hB1 : isB a) (hnc1 : n1 ≤ c1) (hn1 : c1 ≤ 9223372036854775807) (hR2 : Rd w 1 A2 n2 (bs b)) (hB2 : isB b) (hnc2 : n2 ≤ c2) (hn2 : c2 ≤ 9223372036854775807)
    (hR3 : Rd w 1 A3 n3 (bs cc)) (hB3 : isB cc) (hnc3 : n3 ≤ c3) (hn3 : c3 ≤ 9223372036854775807) (hR4 : Rd w 1 A4 n4 (bs tx)) (hB4 : isB tx) (hnc4 : n4 ≤ c4) (hn4 : c4 ≤ 9223372036854775807) (wk : (Lit.int .u8 k).wf = true) :
    Calls Tryd.prog 8 #[.slice A1 n1 c1, .slice A2 n2 c2, .slice A3 n3 c3, .slice A4 n4 c4, .int .u8 k] w fun e w' => e = .returned (.bool true) ∧ Below w.heap.size w w' := by
  obtain ⟨k0, k1⟩ := bounds_u8 wk
  exact macturns_walk A1 n1 c1 a A2 n2 c2 b A3 n3 c3 cc A4 n4 c4 tx k w hT hR1 hB1 hR2 hB2 hR3 hB3 hR4 hB4 k0 k1
end Go.Proofs.YtjikegapljdddaaDoor
