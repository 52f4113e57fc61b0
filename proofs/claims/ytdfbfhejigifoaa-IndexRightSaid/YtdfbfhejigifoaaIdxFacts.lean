/- What the laws use of tables: put and taken out by what they have. No program in sight. -/
import Derived.Test.YtdfbfhejigifoaaIdxDst
namespace Go.Proofs.Ytdfbfhejigifoaa
set_option linter.unusedVariables false
namespace Idx
variable {l : List Cell}
theorem at_rep {n i : Nat} : at' (List.replicate n Cell.nil) i = Cell.nil := by
  unfold at'
  by_cases h : i < n
  · simp [h]
  · simp [h]
theorem many_rep (n : Nat) : many (List.replicate n Cell.nil) = 0 := by
  unfold many
  rw [List.countP_eq_zero]
  intro c hc
  rw [List.eq_of_mem_replicate hc]
  decide
theorem good_new {n : Nat} (h : size n = true) : Good (List.replicate n Cell.nil) := by
  have hn : 0 < n := by
    rcases Nat.eq_zero_or_pos n with h0 | h0
    · subst h0; cases h
    · exact h0
  refine ⟨by simpa using h, by rw [many_rep]; simpa using hn, ?_, ?_, ?_⟩
  · intro i hi hu; rw [at_rep] at hu; cases hu
  · intro i hi hu; rw [at_rep] at hu; cases hu
  · intro i hi _; exact at_rep
theorem has_new {n : Nat} {k : Key} {v : Int} : ¬ has (List.replicate n Cell.nil) k v := by
  rintro ⟨i, e⟩; rw [at_rep] at e; cases e
def PutOk (l R : List Cell) (k : Key) (n : Int) : Prop := Good R ∧ (∀ k' n', has R k' n' ↔ has l k' n' ∨ (k' = k ∧ n' = n)) ∧ many R = many l + 1 ∧ R.length = l.length
theorem put_ok (h : Good l) {k : Key} {n : Int} (hk : right k = true) (hno : ∀ v, ¬ has l k v) (hm : many l + 1 < l.length) : ∃ R, put l k n = (R, 0) ∧ PutOk l R k n := by
  obtain ⟨p, hp⟩ := h.found k
  have hpl := (ends_of_fnd hp).1
  cases hu : (at' l p).u
  · refine ⟨l.set p ⟨true, k, n⟩, ?_, put_good h hk hp hu hm, put_has h hp hu, put_many hpl hu, by simp⟩
    unfold put
    rw [right_iff.2 h, hk, hp]
    simp [hu]; omega
  · exact absurd ⟨p, h.fnd_used hp hu⟩ (hno _)
theorem put_twice (h : Good l) {k : Key} {n v : Int} (hk : right k = true) (hh : has l k v) : put l k n = (l, 10) := by
  obtain ⟨i, e⟩ := hh
  unfold put
  rw [right_iff.2 h, hk, h.fnd_has e]
  simp [e]
theorem put_full (h : Good l) {k : Key} {n : Int} (hk : right k = true) (hno : ∀ v, ¬ has l k v) (hm : many l + 1 = l.length) : put l k n = (l, 8) := by
  obtain ⟨p, hp⟩ := h.found k
  cases hu : (at' l p).u
  · unfold put
    rw [right_iff.2 h, hk, hp]
    simp [hu, hm]
  · exact absurd ⟨p, h.fnd_used hp hu⟩ (hno _)
theorem put_wrong {k : Key} {n : Int} (hk : right k = false) : put l k n = (l, 1) := by unfold put; rw [hk]; simp
theorem del_ok (h : Good l) {k : Key} {v : Int} (hh : has l k v) : ∃ R, del l k = (R, 0) ∧ DelR l R k := by
  obtain ⟨i, e⟩ := hh
  have hf := h.fnd_has e
  have hu : (at' l i).u = true := by rw [e]
  obtain ⟨h1, h2⟩ := del_eq h hf hu
  refine ⟨_, ?_, h2⟩
  unfold del
  rw [right_iff.2 h, hf]
  simp only [Bool.not_true, Bool.false_eq_true, if_false, hu, if_true, h1]
theorem del_none (h : Good l) {k : Key} (hh : ∀ v, ¬ has l k v) : del l k = (l, 9) := by
  obtain ⟨p, hp⟩ := h.found k
  cases hu : (at' l p).u
  · unfold del
    rw [right_iff.2 h, hp]
    simp [hu]
  · exact absurd ⟨p, h.fnd_used hp hu⟩ (hh _)
theorem right_of (h : Good l) : Right l = true := right_iff.2 h
/-- the fixed answers -/
theorem aw {k : Key} (hk : right k = true) : ∃ R S, put (List.replicate 4 Cell.nil) k 7 = (R, 0) ∧ R.length = 4 ∧ get R k = (7, true) ∧ many R = 1 ∧ del R k = (S, 0) ∧ many S = 0 ∧ S.length = 4 := by
  have hg : Good (List.replicate 4 Cell.nil) := good_new (by decide)
  obtain ⟨R, h1, h2, h3, h4, h5⟩ := put_ok (n := 7) hg hk (fun v => has_new) (by rw [many_rep]; decide)
  have hh : has R k 7 := (h3 k 7).2 (.inr ⟨rfl, rfl⟩)
  obtain ⟨S, h6, h7, h8, h9, h10⟩ := del_ok h2 hh
  rw [many_rep] at h4
  exact ⟨R, S, h1, by rw [h5]; simp, get_has h2 hh, h4, h6, by omega, by rw [h10, h5]; simp⟩
/-- put, and taken out at once: by the answers -/
theorem back {l R : List Cell} {k : Key} {n : Int} (h : put l k n = (R, 0)) : del R k = (l, 0) ∧ get l k = (0, false) := by
  unfold put at h
  cases hr : Right l
  · rw [hr] at h; simp at h
  · cases hk : right k
    · rw [hk] at h; simp at h
    · have hg := right_iff.1 hr
      obtain ⟨p, hp⟩ := hg.found k
      rw [hr, hk, hp] at h
      simp only [Bool.and_self, Bool.not_true, Bool.false_eq_true, if_false] at h
      cases hu : (at' l p).u
      · rw [hu] at h
        simp only [Bool.false_eq_true, if_false] at h
        by_cases hm : many l + 1 = l.length
        · rw [if_pos hm] at h; simp at h
        · rw [if_neg hm] at h
          have := hg.room
          injection h with h
          rw [← h]
          exact ⟨del_put hg hk hp hu (by omega), get_none hg (fun v => hg.fnd_free hp hu v)⟩
      · rw [hu] at h; simp at h
theorem put_err {l R : List Cell} {k : Key} {n e : Int} (h : put l k n = (R, e)) (he : e ≠ 0) : R = l := by
  unfold put at h
  split at h
  · injection h with h; exact h.symm
  · split at h
    · split at h
      · injection h with h; exact h.symm
      · split at h
        · injection h with h; exact h.symm
        · injection h with _ h; omega
    · injection h with h; exact h.symm
theorem put_len (l : List Cell) (k : Key) (n : Int) : (put l k n).1.length = l.length := by
  unfold put
  split
  · rfl
  · split
    · split
      · rfl
      · split
        · rfl
        · simp
    · rfl
theorem put_bd (l : List Cell) (k : Key) (n : Int) : 0 ≤ (put l k n).2 ∧ (put l k n).2 ≤ 100 := by
  have e : ∀ (m : List Cell) (x : Int), 0 ≤ x ∧ x ≤ 100 → 0 ≤ (m, x).2 ∧ (m, x).2 ≤ 100 := fun m x h => h
  unfold put
  split
  · exact e _ _ (by decide)
  · split
    · split
      · exact e _ _ (by decide)
      · split
        · exact e _ _ (by decide)
        · exact e _ _ (by decide)
    · exact e _ _ (by decide)
end Idx
end Go.Proofs.Ytdfbfhejigifoaa
