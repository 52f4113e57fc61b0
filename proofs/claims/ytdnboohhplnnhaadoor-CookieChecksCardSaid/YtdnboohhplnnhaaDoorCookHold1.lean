/- CookieChecks: its walk at arguments that came in. -/
import Derived.Test.YtdnboohhplnnhaaDoorCookLaw1
import Derived.Test.YtdnboohhplnnhaaDoorOpenR
import Derived.Test.YtdnboohhplnnhaaDoorCookOpen
namespace Go.Proofs.YtdnboohhplnnhaaDoor
open Go.RowKit
set_option linter.unusedVariables false
theorem cell_lt {w : World} {g i : Nat} {v : Value} (h : w.cell? ⟨g, i, none⟩ = some v) : g < w.heap.size := by
  rcases Nat.lt_or_ge g w.heap.size with h1 | h1
  · exact h1
  · exfalso
    unfold World.cell? at h
    rw [Array.getElem?_eq_none h1] at h
    simp at h
theorem CookieChecks_walk (A : Option Addr) (n c : Nat) (rs : List Mac.Key) (t : Cook.Tup) (sq ep ck : Int) (w : World) (hT : Tabs w) (hK : TabK w) (hr0 : Mac.Ring0 w A n rs) (hnc : n ≤ c) (hc : c ≤ 9223372036854775807) (hw : t.wf) (ws : (Lit.int .u32 sq).wf = true) (we : (Lit.int .i64 ep).wf = true) (wc : (Lit.int .u32 ck).wf = true) :
    Calls Tryd.prog 4 #[.slice A n c, .agg #[.int .i64 t.proto, .int .u32 t.src, .int .i64 t.sport, .int .u32 t.dst, .int .i64 t.dport], .int .u32 sq, .int .i64 ep, .int .u32 ck] w fun e w' => e = .returned (.bool true) ∧ Below w.heap.size w w' := by
  obtain ⟨s0, s1⟩ := bounds_u32 ws
  obtain ⟨c0, c1⟩ := bounds_u32 wc
  exact cookiechecks_walk A n c rs t hw sq ep ck s0 s1 c0 c1 w hT hK hr0 (by omega)
end Go.Proofs.YtdnboohhplnnhaaDoor
