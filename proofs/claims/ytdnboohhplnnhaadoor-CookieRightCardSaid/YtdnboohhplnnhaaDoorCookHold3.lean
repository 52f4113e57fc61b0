/- CookieRight: its walk at arguments that came in. -/
import Derived.Test.YtdnboohhplnnhaaDoorCookLaw3
import Derived.Test.YtdnboohhplnnhaaDoorCookOpen
namespace Go.Proofs.YtdnboohhplnnhaaDoor
open Go.RowKit
set_option linter.unusedVariables false
theorem cell_lt {w : World} {g i : Nat} {v : Value} (h : w.cell? ⟨g, i, none⟩ = some v) : g < w.heap.size := by
  rcases Nat.lt_or_ge g w.heap.size with h1 | h1
  · exact h1
  · exfalso
    unfold World.cell? at h
    rw [Array.getElem?_eq_none h1] at h
    simp at h
theorem CookieRight_walk (A : Option Addr) (n c : Nat) (l : List Int) (t : Cook.Tup) (sq ep mss ot : Int) (w : World) (hT : Tabs w) (hK : TabK w) (hR : Rd w 1 A n (bs l)) (hB : isB l) (hnc : n ≤ c) (hc : c ≤ 9223372036854775807) (hw : t.wf) (ws : (Lit.int .u32 sq).wf = true) (we : (Lit.int .i64 ep).wf = true) (wm : (Lit.int .i64 mss).wf = true) (wo : (Lit.int .i64 ot).wf = true) :
    Calls Tryd.prog 3 #[.slice A n c, .agg #[.int .i64 t.proto, .int .u32 t.src, .int .i64 t.sport, .int .u32 t.dst, .int .i64 t.dport], .int .u32 sq, .int .i64 ep, .int .i64 mss, .int .i64 ot] w fun e w' => e = .returned (.bool true) ∧ Below w.heap.size w w' := by
  obtain ⟨s0, s1⟩ := bounds_u32 ws
  exact cookieright_walk A n c l t hw sq ep mss ot s0 s1 w hT hK hR hB hnc hc
end Go.Proofs.YtdnboohhplnnhaaDoor
