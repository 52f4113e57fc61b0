/- The walk of RulesBehind in the form that the last step takes. -/
import Derived.Test.YtdocojhjknhjnaaRulesBehindW
namespace Go.Proofs.Ytdocojhjknhjnaa
open Go.RowKit
set_option linter.unusedVariables false
theorem RdRow.rd {w : World} {A : Option Addr} {n : Nat} {l : List Rules.Rule} (h : RdRow w A n l) : Rd w 10 A n (rcells l) := by
  refine ⟨by rw [rcells_len, h.1], fun hn => ?_⟩
  obtain ⟨b, off, rfl, hb, _⟩ := h.2.2 0 hn
  refine ⟨b, off, rfl, hb, fun j u hu => ?_⟩
  have hj : j < n * 10 := by
    have := (List.getElem?_eq_some_iff.1 hu).1
    rw [rcells_len, h.1] at this; exact this
  have hk : j / 10 < n := by omega
  have hi : j % 10 < 10 := Nat.mod_lt _ (by decide)
  obtain ⟨b', off', e, hb', hc⟩ := h.2.2 (j / 10) hk
  injection e with e
  injection e with e1 e2
  subst e1 e2
  have hlen : (l[j / 10]!).cells.length = 10 := rfl
  have h1 := rcells_get l (j / 10) (j % 10) _ (by rw [h.1]; exact hk) (List.getElem?_eq_getElem (by rw [hlen]; exact hi))
  rw [show j / 10 * 10 + j % 10 = j by omega, hu] at h1
  have := hc (j % 10) _ (List.getElem?_eq_getElem (by rw [hlen]; exact hi))
  rw [← Option.some.inj h1, show off + j / 10 * 10 + j % 10 = off + j by omega] at this
  exact this
theorem RulesBehind_walk (A : Option Addr) (n c : Nat) (l : List Rules.Rule) (r : Rules.Rule) (fr tz : Int) (t : Rules.Tup) (w : World) (hR : RdRow w A n l) (hr : ∀ r ∈ l, r.wf) (hnc : n ≤ c) (hc : c ≤ 9223372036854775807) (hrr : r.wf)
    (wf : (Lit.int .i64 fr).wf = true) (wt : (Lit.int .i64 tz).wf = true) (ht : t.wf) :
    Calls Try.prog 4 #[.slice A n c, .agg r.cells.toArray, .int .i64 fr, .int .i64 tz, .agg t.cells.toArray] w fun e w' => e = .returned (.bool true) ∧ Below w.heap.size w w' :=
  rules_behind A n c l r fr tz t w hR hR.rd hr hrr ht
end Go.Proofs.Ytdocojhjknhjnaa
