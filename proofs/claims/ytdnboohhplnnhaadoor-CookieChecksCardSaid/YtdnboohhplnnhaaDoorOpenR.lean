/- A slice of slices of bytes that came in, opened. No program in sight. -/
import Derived.Test.YtdnboohhplnnhaaDoorOpen
import Derived.Test.YtdnboohhplnnhaaDoorMacRing0
import Derived.Deep.Matrix
namespace Go.Proofs.YtdnboohhplnnhaaDoor
open Go.ChangeShapes Go.WideShapes Go.ChangeAt Go.RowKit
set_option linter.unusedVariables false
section
variable {H : Type} {enc : TypeId × Value → H} {P : Program} {W : World} {held : Bool}
theorem open_keys {r : Reach} {b0 : Nat} {t e q : TypeId} {v : Value} {d : DataW H} {p : List MemPlace} (ht : P.underlying t = some (.slice e)) (he : P.underlying e = some (.slice q)) (hq : P.underlying q = some (.int .u8)) (ce : P.cellsOf e = 1) (cq : P.cellsOf q = 1)
    (hv : Value.okWide P W r b0 t v) (h : DataW.Trod enc P W 0 (fun _ => true) held t v d p) :
    ∃ A n c rs, v = .slice A n c ∧ Mac.Ring0 W A n rs ∧ n ≤ c ∧ c ≤ 9223372036854775807 := by
  obtain ⟨a, len, cap, rfl⟩ := okWide_slice ht hv
  obtain ⟨fuel, hf⟩ := h
  rcases Go.Deep.open_int_rows ht he hq ce cq hf with ⟨hcs, _⟩ | ⟨a, len, cap, A, L, C, Z, hcs, _, hl, hm, _, hx⟩
  · simp only [Value.cells, List.cons.injEq, and_true] at hcs
    exact ⟨none, 0, 0, [], hcs, ⟨rfl, Rd.nil_ _, fun k hk => by cases hk⟩, Nat.le_refl _, by omega⟩
  · simp only [Value.cells, List.cons.injEq, and_true] at hcs
    have hm' : cap ≤ 9223372036854775807 := by unfold maxLen at hm; omega
    refine ⟨some a, len, cap, (List.range len).map fun r => ⟨A r, L r, C r, (Z r).take (L r)⟩, hcs, ⟨by simp, ⟨by simp, fun hn => ?_⟩, fun k hk => ?_⟩, hl, hm'⟩
    · have h0 := (hx 0 (by omega)).1
      rw [show a.add 0 = a from by simp [Addr.add]] at h0
      obtain ⟨b, off, rfl, hb⟩ := spot_none h0
      refine ⟨b, off, rfl, hb, fun j u hu => ?_⟩
      rw [List.getElem?_map, List.getElem?_map] at hu
      have hj : j < len := by
        rcases Nat.lt_or_ge j len with hj | hj
        · exact hj
        · rw [List.getElem?_eq_none (by simpa using hj)] at hu
          simp at hu
      rw [List.getElem?_range hj] at hu
      simp only [Option.map_some, Option.some.injEq] at hu
      have h1 := (hx j (by omega)).1
      rw [add_off] at h1
      rw [h1, ← hu]
      rfl
    · simp only [List.mem_map, List.mem_range] at hk
      obtain ⟨r0, hr0, rfl⟩ := hk
      obtain ⟨_, hLC, hCm, hZl, hwf, hnone, hcell⟩ := hx r0 (by omega)
      refine ⟨⟨by rw [bs_len]; simp; omega, fun hn => ?_⟩, fun z hz => bounds_u8 (hwf z (List.mem_of_mem_take hz)), by simp only; unfold maxLen at hCm; omega⟩
      simp only at hn ⊢
      rcases hA : A r0 with _ | a'
      · have := hnone hA
        omega
      · obtain ⟨_, hc⟩ := hcell a' hA
        have h0 := hc 0 (by omega)
        rw [show a'.add 0 = a' from by simp [Addr.add]] at h0
        obtain ⟨b, off, rfl, hb⟩ := spot_none h0
        refine ⟨b, off, rfl, hb, fun j u hu => ?_⟩
        rw [bs, List.getElem?_map, List.getElem?_take] at hu
        split at hu
        · rename_i hj
          have hjz : j < (Z r0).length := by omega
          rw [List.getElem?_eq_getElem hjz] at hu
          simp only [Option.map_some, Option.some.injEq] at hu
          have h1 := hc j (by omega)
          rw [add_off] at h1
          rw [h1, ← hu]
          simp [hjz]
        · simp at hu
end
end Go.Proofs.YtdnboohhplnnhaaDoor
