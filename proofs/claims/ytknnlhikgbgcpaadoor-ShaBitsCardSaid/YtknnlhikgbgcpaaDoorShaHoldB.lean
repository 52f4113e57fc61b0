/- ShaBits: its walk at an argument that came in. -/
import Derived.Test.YtknnlhikgbgcpaaDoorShaLawB
namespace Go.Proofs.YtknnlhikgbgcpaaDoor
open Go.RowKit
theorem cell_lt {w : World} {g i : Nat} {v : Value} (h : w.cell? ⟨g, i, none⟩ = some v) : g < w.heap.size := by
  rcases Nat.lt_or_ge g w.heap.size with h1 | h1
  · exact h1
  · exfalso
    unfold World.cell? at h
    rw [Array.getElem?_eq_none h1] at h
    simp at h
theorem ShaBits_walk (A : Option Addr) (n c : Nat) (l : List Int) (a d : Int) (w : World) (hT : Tabs w) (hR : Rd w 1 A n (bs l)) (hB : isB l) (hnc : n ≤ c) (hn : c ≤ 9223372036854775807) (wa : (Lit.int .u8 a).wf = true) (wd : (Lit.int .u8 d).wf = true) :
    Calls Tryd.prog 5 #[.slice A n c, .int .u8 a, .int .u8 d] w fun e w' => e = .returned (.bool true) ∧ Below w.heap.size w w' := by
  obtain ⟨a0, a1⟩ := bounds_u8 wa
  obtain ⟨d0, d1⟩ := bounds_u8 wd
  exact shabits_walk A n c l a d w hT hR hB hnc hn a0 a1 d0 d1
end Go.Proofs.YtknnlhikgbgcpaaDoor
