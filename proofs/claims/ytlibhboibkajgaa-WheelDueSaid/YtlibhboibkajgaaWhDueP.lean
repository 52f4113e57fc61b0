/- WheelDue's plain law. No program in sight. -/
import Derived.Test.YtlibhboibkajgaaWhFill
namespace Go.Proofs.Ytlibhboibkajgaa
set_option linter.unusedVariables false
namespace Wh
/-- what waits at a time, of n numbers that were set -/
structure DInv (a : List Int) (n : Nat) (l : List Al) (now : Int) (seen : Nat) : Prop where
  ok : Wok l
  len : l.length + seen = n
  mem : ∀ x, x ∈ l ↔ ∃ j : Nat, j < n ∧ x = ⟨j, a.getD j 0 + 1⟩ ∧ now < a.getD j 0 + 1
theorem DInv.start (a : List Int) (n : Nat) (ha : ∀ x ∈ a, 0 ≤ x) : DInv a n (fill a n) 0 0 := by
  obtain ⟨h1, h2, h3⟩ := fill_law a n
  refine ⟨h1, by omega, fun x => ?_⟩
  rw [h3]
  constructor
  · rintro ⟨j, hj, rfl⟩
    refine ⟨j, hj, rfl, ?_⟩
    have hg : 0 ≤ a.getD j 0 := by
      rw [List.getD_eq_getElem?_getD]
      cases hq : a[j]? with
      | none => simp
      | some y => exact ha y (List.mem_of_getElem? hq)
    omega
  · rintro ⟨j, hj, rfl, _⟩
    exact ⟨j, hj, rfl⟩
theorem DInv.tick {a : List Int} {n : Nat} {l : List Al} {now t : Int} {seen : Nat} (h : DInv a n l now seen) (ht : now ≤ t) :
    let r := tickL (l.length + 1) l t
    DInv a n r.2 t (seen + r.1.length) ∧ r.1.Pairwise lt ∧ ∀ x ∈ r.1, ∃ j : Nat, j < n ∧ x = ⟨j, a.getD j 0 + 1⟩ ∧ now < a.getD j 0 + 1 ∧ a.getD j 0 + 1 ≤ t := by
  obtain ⟨p, q1, q2, q3, q4⟩ := tick_law t _ _ h.ok (Nat.lt_succ_self _)
  refine ⟨⟨q4, ?_, fun x => ?_⟩, q3, fun x hx => ?_⟩
  · have := p.length_eq
    rw [List.length_append] at this
    have h2 := h.len
    simp only [Nat.succ_eq_add_one] at this
    omega
  · constructor
    · intro hx
      obtain ⟨j, hj, rfl, _⟩ := (h.mem x).1 (p.mem_iff.1 (List.mem_append_right _ hx))
      exact ⟨j, hj, rfl, q2 _ hx⟩
    · rintro ⟨j, hj, rfl, hl⟩
      have hin := (h.mem ⟨j, a.getD j 0 + 1⟩).2 ⟨j, hj, rfl, by omega⟩
      rcases List.mem_append.1 (p.mem_iff.2 hin) with h1 | h1
      · have := q1 _ h1
        simp only at this
        omega
      · exact h1
  · obtain ⟨j, hj, rfl, hl⟩ := (h.mem x).1 (p.mem_iff.1 (List.mem_append_left _ hx))
    exact ⟨j, hj, rfl, hl, q1 _ hx⟩
/-- neighbours in a tick -/
theorem pair_lt {r : List Al} (h : r.Pairwise lt) {k : Nat} (hk : k + 1 < r.length) : lt (al r k) (al r (k + 1)) := by
  rw [al_lt (by omega), al_lt hk]
  exact List.pairwise_iff_getElem.1 h k (k + 1) (by omega) hk (by omega)
/-- When, at the end -/
theorem DInv.when {a : List Int} {n : Nat} {l : List Al} {now : Int} {seen : Nat} (h : DInv a n l now seen) {j : Nat} (hj : j < n) :
    (now < a.getD j 0 + 1 → ∃ p, place l j = some p ∧ (al l p).t = a.getD j 0 + 1) ∧ (¬ now < a.getD j 0 + 1 → place l j = none) := by
  constructor
  · intro hl
    have hin := (h.mem ⟨j, a.getD j 0 + 1⟩).2 ⟨j, hj, rfl, hl⟩
    obtain ⟨p, hp, e⟩ := mem_al hin
    have := place_at h.ok.dist hp
    rw [e] at this
    exact ⟨p, this, by rw [e]⟩
  · intro hl
    cases hp : place l j with
    | none => rfl
    | some p =>
      obtain ⟨h1, h2⟩ := place_some hp
      obtain ⟨j', hj', e, hl'⟩ := (h.mem _).1 (al_mem h1)
      rw [e] at h2
      simp only at h2
      have : j' = j := by omega
      subst this
      exact absurd hl' hl
end Wh
end Go.Proofs.Ytlibhboibkajgaa
