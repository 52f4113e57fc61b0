/- WheelDrops' plain law. No program in sight. -/
import Derived.Test.YtlibhboibkajgaaWhFill
namespace Go.Proofs.Ytlibhboibkajgaa
set_option linter.unusedVariables false
namespace Wh
/-- is number j dropped? -/
def dr (d : List Bool) (j : Nat) : Bool := d.getD j false
def dropAt (l : List Al) (k : Int) : List Al := match place l k with | some i => remL l i | none => l
theorem dropAt_wok {l : List Al} (h : Wok l) (k : Int) : Wok (dropAt l k) := by
  unfold dropAt
  cases hk : place l k with
  | some i => exact h.rem (place_some hk).1
  | none => exact h
theorem mem_dropAt {l : List Al} (h : Wok l) (k : Int) (x : Al) : x ∈ dropAt l k ↔ x ∈ l ∧ x.k ≠ k := by
  unfold dropAt
  cases hk : place l k with
  | some i =>
    obtain ⟨hi, h2⟩ := place_some hk
    rw [mem_rem h.dist hi, h2]
  | none => exact ⟨fun hx => ⟨hx, place_none hk x hx⟩, fun hx => hx.1⟩
theorem len_dropAt {l : List Al} (k : Int) (h : (place l k).isSome) : (dropAt l k).length = l.length - 1 := by
  unfold dropAt
  cases hk : place l k with
  | some i => exact rem_len (place_some hk).1
  | none => rw [hk] at h; cases h
theorem place_of_mem {l : List Al} {k : Int} {x : Al} (hx : x ∈ l) (hk : x.k = k) : (place l k).isSome := by
  cases hp : place l k with
  | some i => rfl
  | none => exact absurd hk (place_none hp x hx)
def drops (a : List Int) (d : List Bool) (n : Nat) : Nat → List Al
  | 0 => fill a n
  | i + 1 => if dr d i then dropAt (drops a d n i) i else drops a d n i
/-- how many of the first i are not dropped -/
def left (d : List Bool) : Nat → Nat
  | 0 => 0
  | i + 1 => if dr d i then left d i else left d i + 1
theorem drops_law (a : List Int) (d : List Bool) (n : Nat) : ∀ i, i ≤ n → Wok (drops a d n i) ∧ (drops a d n i).length = left d i + (n - i) ∧ ∀ x, x ∈ drops a d n i ↔ ∃ j : Nat, j < n ∧ x = ⟨j, a.getD j 0 + 1⟩ ∧ (i ≤ j ∨ dr d j = false) := by
  intro i
  induction i with
  | zero =>
    intro _
    obtain ⟨h1, h2, h3⟩ := fill_law a n
    exact ⟨h1, by show (fill a n).length = _; rw [h2]; simp [left], fun x => by
      show x ∈ fill a n ↔ _
      rw [h3]
      constructor
      · rintro ⟨j, hj, rfl⟩; exact ⟨j, hj, rfl, Or.inl (Nat.zero_le _)⟩
      · rintro ⟨j, hj, rfl, _⟩; exact ⟨j, hj, rfl⟩⟩
  | succ i ih =>
    intro hi
    obtain ⟨h1, h2, h3⟩ := ih (by omega)
    have hin : (⟨i, a.getD i 0 + 1⟩ : Al) ∈ drops a d n i := (h3 _).2 ⟨i, by omega, rfl, Or.inl (Nat.le_refl _)⟩
    unfold drops left
    by_cases hd : dr d i = true
    · rw [if_pos hd, if_pos hd]
      refine ⟨dropAt_wok h1 _, ?_, fun x => ?_⟩
      · rw [len_dropAt _ (place_of_mem hin rfl), h2]; omega
      · rw [mem_dropAt h1, h3]
        constructor
        · rintro ⟨⟨j, hj, rfl, ho⟩, hk⟩
          simp only at hk
          refine ⟨j, hj, rfl, ?_⟩
          rcases ho with ho | ho
          · exact Or.inl (by omega)
          · exact Or.inr ho
        · rintro ⟨j, hj, rfl, ho⟩
          refine ⟨⟨j, hj, rfl, ?_⟩, ?_⟩
          · rcases ho with ho | ho
            · exact Or.inl (by omega)
            · exact Or.inr ho
          · simp only
            rcases ho with ho | ho
            · omega
            · intro e
              have : j = i := by omega
              rw [this, hd] at ho
              cases ho
    · rw [if_neg hd, if_neg hd]
      refine ⟨h1, by rw [h2]; omega, fun x => ?_⟩
      rw [h3]
      constructor
      · rintro ⟨j, hj, rfl, ho⟩
        refine ⟨j, hj, rfl, ?_⟩
        rcases ho with ho | ho
        · by_cases e : j = i
          · rw [e]; exact Or.inr (by simpa using hd)
          · exact Or.inl (by omega)
        · exact Or.inr ho
      · rintro ⟨j, hj, rfl, ho⟩
        refine ⟨j, hj, rfl, ?_⟩
        rcases ho with ho | ho
        · exact Or.inl (by omega)
        · exact Or.inr ho
/-- dropping a second time finds nothing -/
theorem drop_twice {l : List Al} (h : Wok l) (k : Int) : place (dropAt l k) k = none := by
  cases hp : place (dropAt l k) k with
  | none => rfl
  | some i =>
    obtain ⟨h1, h2⟩ := place_some hp
    exact absurd h2 ((mem_dropAt h k _).1 (al_mem h1)).2
theorem drops_tick (a : List Int) (d : List Bool) (n : Nat) (ha : ∀ x ∈ a, x ≤ 65535) :
    let r := tickL ((drops a d n n).length + 1) (drops a d n n) 70000
    r.2 = [] ∧ r.1.length = left d n ∧ ∀ x ∈ r.1, ∃ j : Nat, j < n ∧ x.k = j ∧ dr d j = false := by
  obtain ⟨h1, h2, h3⟩ := drops_law a d n n (Nat.le_refl _)
  obtain ⟨p, q1, q2, q3, q4⟩ := tick_law 70000 _ _ h1 (Nat.lt_succ_self _)
  have e : (tickL ((drops a d n n).length + 1) (drops a d n n) 70000).2 = [] := by
    cases hr : (tickL ((drops a d n n).length + 1) (drops a d n n) 70000).2 with
    | nil => rfl
    | cons x t =>
      exfalso
      have hx : x ∈ (tickL ((drops a d n n).length + 1) (drops a d n n) 70000).2 := by rw [hr]; simp
      have hx2 := p.mem_iff.1 (List.mem_append_right _ hx)
      obtain ⟨j, hj, rfl, _⟩ := (h3 x).1 hx2
      have := q2 _ hx
      simp only at this
      have hg : a.getD j 0 ≤ 65535 := by
        rw [List.getD_eq_getElem?_getD]
        cases hq : a[j]? with
        | none => simp
        | some y => exact ha y (List.mem_of_getElem? hq)
      omega
  refine ⟨e, ?_, fun x hx => ?_⟩
  · have := p.length_eq
    rw [e, List.append_nil] at this
    exact (this.trans h2).trans (by simp)
  · obtain ⟨j, hj, rfl, ho⟩ := (h3 x).1 (p.mem_iff.1 (List.mem_append_left _ hx))
    refine ⟨j, hj, rfl, ?_⟩
    rcases ho with ho | ho
    · omega
    · exact ho
end Wh
end Go.Proofs.Ytlibhboibkajgaa
