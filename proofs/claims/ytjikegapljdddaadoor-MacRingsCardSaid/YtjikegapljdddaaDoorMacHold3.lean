/- MacRings: its walk at arguments that came in. -/
import Derived.Test.YtjikegapljdddaaDoorMacLaw3
import Derived.Test.YtjikegapljdddaaDoorOpenR
namespace Go.Proofs.YtjikegapljdddaaDoor
open Go.RowKit
set_option linter.unusedVariables false
theorem cell_lt {w : World} {g i : Nat} {v : Value} (h : w.cell? ⟨g, i, none⟩ = some v) : g < w.heap.size := by
  rcases Nat.lt_or_ge g w.heap.size with h1 | h1
  · exact h1
  · exfalso
    unfold World.cell? at h
    rw [Array.getElem?_eq_none h1] at h
    simp at h
theorem MacRings_walk (A : Option Addr) (n c : Nat) (rs : List Mac.Key) (B : Option Addr) (m d : Nat) (key : List Int) (D : Option Addr) (p f : Nat) (b : List Int) (nn u : Int) (w : World) (hT : Tabs w) (hK : TabK w) (hr0 : Mac.Ring0 w A n rs) (hnc : n ≤ c) (hc : c ≤ 9223372036854775807)
    (hB : Rd w 1 B m (bs key)) (hk8 : isB key) (hmd : m ≤ d) (hd : d ≤ 9223372036854775807) (hD : Rd w 1 D p (bs b)) (hb8 : isB b) (hpf : p ≤ f) (hf : f ≤ 9223372036854775807) (wn : (Lit.int .i64 nn).wf = true) (wu : (Lit.int .u32 u).wf = true) :
    Calls Tryd.prog 7 #[.slice A n c, .slice B m d, .slice D p f, .int .i64 nn, .int .u32 u] w fun e w' => e = .returned (.bool true) ∧ Below w.heap.size w w' :=
  macrings_walk A n c rs B m d key D p f b nn u w hT hK hr0 hnc hc hB hk8 hD hb8
end Go.Proofs.YtjikegapljdddaaDoor
