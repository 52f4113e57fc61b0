/- A row of bools opened. No program in sight. -/
import Derived.Test.YtlibhboibkajgaaOpen
import Derived.Deep.Grids
namespace Go.Proofs.Ytlibhboibkajgaa
open Go.ChangeShapes Go.WideShapes Go.ChangeAt Go.RowKit
set_option linter.unusedVariables false
section
variable {H : Type} {enc : TypeId × Value → H} {P : Program} {W : World} {held : Bool}
theorem open_bools_arg {r : Reach} {b0 : Nat} {t e : TypeId} {v : Value} {d : DataW H} {p : List MemPlace} (ht : P.underlying t = some (.slice e)) (he : P.underlying e = some .bool) (hc : P.cellsOf e = 1)
    (hv : Value.okWide P W r b0 t v) (h : DataW.Trod enc P W 0 (fun _ => true) held t v d p) :
    ∃ A n c l, v = .slice A n c ∧ Rd W 1 A n (List.map Value.bool l) ∧ n ≤ 9223372036854775807 := by
  obtain ⟨a, len, cap, rfl⟩ := okWide_slice ht hv
  obtain ⟨fuel, hf⟩ := h
  rcases Go.Deep.open_bools ht he hc hf with ⟨hcs, _⟩ | ⟨a, len, cap, B, hcs, _, hl, hm, _, hcell⟩
  · have hcs := (List.cons.inj hcs).1
    exact ⟨none, 0, 0, [], hcs, Rd.nil_ _, by omega⟩
  · have hcs := (List.cons.inj hcs).1
    refine ⟨some a, len, cap, (List.range len).map B, hcs, ⟨by simp, fun hn => ?_⟩, by unfold maxLen at hm; omega⟩
    have h0 := hcell 0 (by omega)
    rw [show a.add 0 = a from by simp [Addr.add]] at h0
    obtain ⟨b, off, rfl, hb⟩ := spot_none h0
    refine ⟨b, off, rfl, hb, fun j u hu => ?_⟩
    rw [List.map_map, List.getElem?_map] at hu
    by_cases hj : j < len
    · rw [List.getElem?_range hj] at hu
      simp only [Option.map_some, Option.some.injEq, Function.comp] at hu
      have := hcell j (by omega)
      rw [add_off] at this
      rw [this, hu]
    · rw [List.getElem?_eq_none (by simp; omega)] at hu
      cases hu
end
end Go.Proofs.Ytlibhboibkajgaa
