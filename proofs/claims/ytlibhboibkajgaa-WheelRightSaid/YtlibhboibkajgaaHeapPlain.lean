/- A heap of alarms, over lists: up, down, push, pop, remove, fix. No program in sight. -/
import Derived.RowKit
namespace Go.Proofs.Ytlibhboibkajgaa
set_option linter.unusedVariables false
namespace Wh
/-- an alarm: its number, its time -/
structure Al where
  k : Int
  t : Int
deriving DecidableEq, Inhabited
def Al.nil : Al := ⟨0, 0⟩
def lt (x y : Al) : Prop := x.t < y.t ∨ (x.t = y.t ∧ x.k < y.k)
instance (x y : Al) : Decidable (lt x y) := by unfold lt; exact inferInstance
def al (l : List Al) (i : Nat) : Al := l.getD i Al.nil
def par (i : Nat) : Nat := (i - 1) / 2
def sw (l : List Al) (i j : Nat) : List Al := (l.set i (al l j)).set j (al l i)
def up : Nat → List Al → Nat → List Al
  | 0, l, _ => l
  | f + 1, l, j => if par j = j ∨ ¬ lt (al l j) (al l (par j)) then l else up f (sw l (par j) j) (par j)
/-- the lesser child -/
def kid (l : List Al) (i n : Nat) : Nat := if 2 * i + 2 < n ∧ lt (al l (2 * i + 2)) (al l (2 * i + 1)) then 2 * i + 2 else 2 * i + 1
def down : Nat → List Al → Nat → Nat → List Al × Nat
  | 0, l, i, _ => (l, i)
  | f + 1, l, i, n => if n ≤ 2 * i + 1 then (l, i) else if ¬ lt (al l (kid l i n)) (al l i) then (l, i) else down f (sw l i (kid l i n)) (kid l i n) n
variable {l : List Al}
theorem al_lt {i : Nat} (h : i < l.length) : al l i = l[i] := by simp [al, h]
theorem sw_len (l : List Al) (i j : Nat) : (sw l i j).length = l.length := by simp [sw]
theorem al_set {i j : Nat} {x : Al} (hi : i < l.length) : al (l.set i x) j = if j = i then x else al l j := by
  unfold al
  by_cases h : j = i
  · subst h; simp [hi]
  · rw [if_neg h, List.getD_eq_getElem?_getD, List.getElem?_set_ne (by omega), List.getD_eq_getElem?_getD]
theorem al_sw {i j k : Nat} (hi : i < l.length) (hj : j < l.length) : al (sw l i j) k = if k = j then al l i else if k = i then al l j else al l k := by
  unfold sw
  rw [al_set (by simpa using hj)]
  split
  · rfl
  · rw [al_set hi]
theorem sw_perm {i j : Nat} (hi : i < l.length) (hj : j < l.length) : (sw l i j).Perm l := by
  rw [List.perm_iff_count]
  intro a
  unfold sw
  rw [List.count_set (by simpa using hj), List.count_set hi, al_lt hi, al_lt hj]
  have h1 : (l.set i l[j])[j]'(by simpa using hj) = if i = j then l[j] else l[j] := by
    rw [List.getElem_set]
  rw [h1]
  simp only [ite_self]
  have c1 : (if l[i] == a then 1 else 0) ≤ l.count a := by
    split
    · rename_i h
      have : a ∈ l := by rw [beq_iff_eq] at h; rw [← h]; exact List.getElem_mem hi
      exact List.count_pos_iff.2 this
    · omega
  omega
/-! ### order -/
theorem lt_irrefl (x : Al) : ¬ lt x x := by unfold lt; omega
theorem lt_asymm {x y : Al} (h : lt x y) : ¬ lt y x := by unfold lt at *; omega
theorem le_trans {x y z : Al} (h : ¬ lt y x) (h' : ¬ lt z y) : ¬ lt z x := by unfold lt at *; omega
theorem lt_le {x y z : Al} (h : lt x y) (h' : ¬ lt z y) : ¬ lt z x := by unfold lt at *; omega
/-! ### heaps -/
def Heap (l : List Al) (n : Nat) : Prop := ∀ i, 0 < i → i < n → ¬ lt (al l i) (al l (par i))
structure UpInv (l : List Al) (n j : Nat) : Prop where
  ok : ∀ i, 0 < i → i < n → i ≠ j → ¬ lt (al l i) (al l (par i))
  kids : ∀ c, 0 < c → c < n → par c = j → 0 < j → ¬ lt (al l c) (al l (par j))
structure FixInv (l : List Al) (n i : Nat) : Prop where
  ok : ∀ k, 0 < k → k < n → k ≠ i → par k ≠ i → ¬ lt (al l k) (al l (par k))
  kids : ∀ c, 0 < c → c < n → par c = i → 0 < i → ¬ lt (al l c) (al l (par i))
structure DownInv (l : List Al) (n i : Nat) : Prop where
  ok : ∀ k, 0 < k → k < n → par k ≠ i → ¬ lt (al l k) (al l (par k))
  kids : ∀ c, 0 < c → c < n → par c = i → 0 < i → ¬ lt (al l c) (al l (par i))
theorem par_lt {j : Nat} (h : 0 < j) : par j < j := by unfold par; omega
theorem up_len : ∀ (f : Nat) (l : List Al) (j : Nat), (up f l j).length = l.length
  | 0, l, j => rfl
  | f + 1, l, j => by
    unfold up
    split
    · rfl
    · rw [up_len f, sw_len]
theorem up_perm : ∀ (f : Nat) (l : List Al) (j : Nat), j < l.length → (up f l j).Perm l
  | 0, l, j, h => List.Perm.refl _
  | f + 1, l, j, h => by
    unfold up
    split
    · exact List.Perm.refl _
    · have hp : par j ≤ j := by unfold par; omega
      exact (up_perm f _ _ (by rw [sw_len]; omega)).trans (sw_perm (by omega) h)
theorem up_heap {n : Nat} : ∀ (f : Nat) (l : List Al) (j : Nat), UpInv l n j → j < n → n ≤ l.length → j < f → Heap (up f l j) n
  | 0, l, j, _, _, _, hf => by omega
  | f + 1, l, j, h, hj, hn, hf => by
    unfold up
    split
    · rename_i hc
      intro k hk0 hkn
      by_cases e : k = j
      · subst e
        rcases hc with hc | hc
        · have := par_lt hk0; omega
        · exact hc
      · exact h.ok k hk0 hkn e
    · rename_i hc
      have hc1 : par j ≠ j := fun e => hc (.inl e)
      have hc2 : lt (al l j) (al l (par j)) := Classical.byContradiction fun e => hc (.inr e)
      have hj0 : 0 < j := by
        rcases Nat.eq_zero_or_pos j with h0 | h0
        · subst h0; exact absurd rfl hc1
        · exact h0
      have hp := par_lt hj0
      refine up_heap f _ _ ⟨?_, ?_⟩ (by omega) (by rw [sw_len]; exact hn) (by omega)
      · intro k hk0 hkn hki
        have hpk := par_lt hk0
        rw [al_sw (by omega) (by omega), al_sw (by omega) (by omega), if_neg hki]
        by_cases e1 : k = j
        · subst e1
          rw [if_pos rfl, if_neg (by omega), if_pos rfl]
          exact lt_asymm hc2
        · rw [if_neg e1]
          by_cases e2 : par k = j
          · rw [if_pos e2]
            exact h.kids k hk0 hkn e2 hj0
          · rw [if_neg e2]
            by_cases e3 : par k = par j
            · rw [if_pos e3]
              have := h.ok k hk0 hkn e1
              rw [e3] at this
              exact lt_le hc2 this
            · rw [if_neg e3]
              exact h.ok k hk0 hkn e1
      · intro c hc0 hcn hcp hi0
        have hpp := par_lt hi0
        rw [al_sw (by omega) (by omega), al_sw (by omega) (by omega), if_neg (show par (par j) ≠ j by omega), if_neg (show par (par j) ≠ par j by omega)]
        have hi := h.ok (par j) hi0 (by omega) (by omega)
        by_cases e1 : c = j
        · rw [if_pos e1]; exact hi
        · have e2 : c ≠ par j := by have := par_lt hc0; omega
          rw [if_neg e1, if_neg e2]
          have := h.ok c hc0 hcn e1
          rw [hcp] at this
          exact le_trans hi this
theorem kid_or (l : List Al) (i n : Nat) : kid l i n = 2 * i + 1 ∨ (kid l i n = 2 * i + 2 ∧ 2 * i + 2 < n) := by
  unfold kid
  split
  · rename_i h; exact .inr ⟨rfl, h.1⟩
  · exact .inl rfl
theorem kid_bd {i n : Nat} (h : 2 * i + 1 < n) : i < kid l i n ∧ kid l i n < n ∧ par (kid l i n) = i := by
  unfold par
  rcases kid_or l i n with e | ⟨e, h'⟩ <;> omega
theorem kid_min {i n k : Nat} (h : 2 * i + 1 < n) (hk0 : 0 < k) (hk : k < n) (hp : par k = i) : ¬ lt (al l k) (al l (kid l i n)) := by
  have hk2 : k = 2 * i + 1 ∨ k = 2 * i + 2 := by unfold par at hp; omega
  unfold kid
  split
  · rename_i hc
    rcases hk2 with rfl | rfl
    · exact lt_asymm hc.2
    · exact lt_irrefl _
  · rename_i hc
    rcases hk2 with rfl | rfl
    · exact lt_irrefl _
    · exact fun e => hc ⟨hk, e⟩
theorem down_len : ∀ (f : Nat) (l : List Al) (i n : Nat), (down f l i n).1.length = l.length
  | 0, l, i, n => rfl
  | f + 1, l, i, n => by
    unfold down
    split
    · rfl
    · split
      · rfl
      · rw [down_len f, sw_len]
theorem down_ge : ∀ (f : Nat) (l : List Al) (i n : Nat), i ≤ (down f l i n).2
  | 0, l, i, n => Nat.le_refl _
  | f + 1, l, i, n => by
    unfold down
    split
    · exact Nat.le_refl _
    · split
      · exact Nat.le_refl _
      · have := down_ge f (sw l i (kid l i n)) (kid l i n) n
        have := (kid_bd (l := l) (i := i) (n := n) (by omega)).1
        omega
theorem down_perm : ∀ (f : Nat) (l : List Al) (i n : Nat), n ≤ l.length → (down f l i n).1.Perm l
  | 0, l, i, n, h => List.Perm.refl _
  | f + 1, l, i, n, h => by
    unfold down
    split
    · exact List.Perm.refl _
    · split
      · exact List.Perm.refl _
      · have hb := kid_bd (l := l) (i := i) (n := n) (by omega)
        exact (down_perm f _ _ _ (by rw [sw_len]; exact h)).trans (sw_perm (by omega) (by omega))
/-- what lies behind n stays -/
theorem down_above : ∀ (f : Nat) (l : List Al) (i n k : Nat), n ≤ l.length → n ≤ k → al (down f l i n).1 k = al l k
  | 0, l, i, n, k, h, hk => rfl
  | f + 1, l, i, n, k, h, hk => by
    unfold down
    split
    · rfl
    · split
      · rfl
      · have hb := kid_bd (l := l) (i := i) (n := n) (by omega)
        rw [down_above f _ _ _ _ (by rw [sw_len]; exact h) hk, al_sw (by omega) (by omega), if_neg (by omega), if_neg (by omega)]
theorem up_above {n : Nat} : ∀ (f : Nat) (l : List Al) (j k : Nat), n ≤ l.length → j < n → n ≤ k → al (up f l j) k = al l k
  | 0, l, j, k, h, hj, hk => rfl
  | f + 1, l, j, k, h, hj, hk => by
    unfold up
    split
    · rfl
    · have hp : par j ≤ j := by unfold par; omega
      rw [up_above f _ _ _ (by rw [sw_len]; exact h) (by omega) hk, al_sw (by omega) (by omega), if_neg (by omega), if_neg (by omega)]
theorem down_stop {i n : Nat} (h : FixInv l n i) (hs : n ≤ 2 * i + 1 ∨ ¬ lt (al l (kid l i n)) (al l i)) : UpInv l n i := by
  refine ⟨?_, h.kids⟩
  intro k hk0 hkn hki
  by_cases e : par k = i
  · have h2 : 2 * i + 1 < n := by unfold par at e; omega
    rcases hs with hs | hs
    · omega
    · rw [e]
      exact le_trans hs (kid_min h2 hk0 hkn e)
  · exact h.ok k hk0 hkn hki e
theorem down_step {i n : Nat} (h : FixInv l n i) (hn : n ≤ l.length) (h2 : 2 * i + 1 < n) (hc : lt (al l (kid l i n)) (al l i)) : DownInv (sw l i (kid l i n)) n (kid l i n) := by
  obtain ⟨b1, b2, b3⟩ := kid_bd (l := l) (i := i) (n := n) h2
  obtain ⟨j, hj⟩ : ∃ j, j = kid l i n := ⟨_, rfl⟩
  have hmin := fun k => kid_min (l := l) (i := i) (n := n) (k := k) h2
  rw [← hj] at b1 b2 b3 hc hmin ⊢
  refine ⟨?_, ?_⟩
  · intro k hk0 hkn hkp
    have hpk := par_lt hk0
    rw [al_sw (by omega) (by omega), al_sw (by omega) (by omega), if_neg hkp]
    by_cases e1 : k = j
    · subst e1
      rw [if_pos rfl, b3, if_pos rfl]
      exact lt_asymm hc
    · rw [if_neg e1]
      by_cases e2 : k = i
      · subst e2
        rw [if_pos rfl, if_neg (by omega)]
        exact h.kids j (by omega) b2 b3 hk0
      · rw [if_neg e2]
        by_cases e3 : par k = i
        · rw [if_pos e3]; exact hmin k hk0 hkn e3
        · rw [if_neg e3]; exact h.ok k hk0 hkn e2 e3
  · intro c hc0 hcn hcp hj0
    have hpc := par_lt hc0
    rw [al_sw (by omega) (by omega), al_sw (by omega) (by omega), if_neg (by omega), if_neg (by omega), b3, if_neg (by omega), if_pos rfl]
    have := h.ok c hc0 hcn (by omega) (by omega)
    rw [hcp] at this
    exact this
theorem DownInv.fix {i n : Nat} (h : DownInv l n i) : FixInv l n i := ⟨fun k h0 h1 _ h3 => h.ok k h0 h1 h3, h.kids⟩
theorem down_heap {n : Nat} : ∀ (f : Nat) (l : List Al) (i : Nat), DownInv l n i → n ≤ l.length → n ≤ i + f → Heap (down f l i n).1 n
  | 0, l, i, h, hn, hf => by
    intro k hk0 hkn
    refine h.ok k hk0 hkn ?_
    have := par_lt hk0
    unfold par
    show (k - 1) / 2 ≠ i
    omega
  | f + 1, l, i, h, hn, hf => by
    have stop : (n ≤ 2 * i + 1 ∨ ¬ lt (al l (kid l i n)) (al l i)) → Heap l n := fun hs k hk0 hkn => by
      by_cases e : k = i
      · subst e
        exact h.ok k hk0 hkn (by have := par_lt hk0; omega)
      · exact (down_stop h.fix hs).ok k hk0 hkn e
    unfold down
    split
    · rename_i hc; exact stop (.inl hc)
    · split
      · rename_i hc; exact stop (.inr hc)
      · rename_i hc1 hc2
        have hb := kid_bd (l := l) (i := i) (n := n) (by omega)
        exact down_heap f _ _ (down_step h.fix hn (by omega) (Classical.byContradiction hc2)) (by rw [sw_len]; exact hn) (by omega)
/-- down from a place that may be wrong both ways: it has moved, and all is well; or nothing was done, and up is left -/
theorem down_fix {i n : Nat} (f : Nat) (h : FixInv l n i) (hn : n ≤ l.length) (hf : n ≤ i + f + 1) :
    (i < (down (f + 1) l i n).2 ∧ Heap (down (f + 1) l i n).1 n) ∨ ((down (f + 1) l i n) = (l, i) ∧ UpInv l n i) := by
  unfold down
  split
  · rename_i hc; exact .inr ⟨rfl, down_stop h (.inl hc)⟩
  · split
    · rename_i hc; exact .inr ⟨rfl, down_stop h (.inr hc)⟩
    · rename_i hc1 hc2
      have hb := kid_bd (l := l) (i := i) (n := n) (by omega)
      have hd := down_ge f (sw l i (kid l i n)) (kid l i n) n
      exact .inl ⟨by omega, down_heap f _ _ (down_step h hn (by omega) (Classical.byContradiction hc2)) (by rw [sw_len]; exact hn) (by omega)⟩
theorem heap_min {n : Nat} (h : Heap l n) : ∀ i, i < n → ¬ lt (al l i) (al l 0) := by
  intro i
  induction i using Nat.strongRecOn with
  | _ i ih =>
    intro hi
    rcases Nat.eq_zero_or_pos i with h0 | h0
    · subst h0; exact lt_irrefl _
    · have hp := par_lt h0
      exact le_trans (ih (par i) hp (by omega)) (h i h0 hi)
/-- a heap with one alarm more behind it -/
theorem push_inv {x : Al} (h : Heap l l.length) : UpInv (l ++ [x]) (l.length + 1) l.length := by
  have e : ∀ i, i < l.length → al (l ++ [x]) i = al l i := fun i hi => by unfold al; rw [List.getD_eq_getElem?_getD, List.getElem?_append_left hi, List.getD_eq_getElem?_getD]
  refine ⟨?_, ?_⟩
  · intro i h0 hi hne
    have hp := par_lt h0
    rw [e i (by omega), e _ (by omega)]
    exact h i h0 (by omega)
  · intro c h0 hc hp hl
    have := par_lt h0
    omega
theorem set_inv {i : Nat} {x : Al} (h : Heap l l.length) (hi : i < l.length) : FixInv (l.set i x) l.length i := by
  refine ⟨?_, ?_⟩
  · intro k h0 hk hki hkp
    rw [al_set hi, al_set hi, if_neg hki, if_neg hkp]
    exact h k h0 hk
  · intro c h0 hc hp hi0
    have hpc := par_lt h0
    have hpi := par_lt hi0
    rw [al_set hi, al_set hi, if_neg (by omega), if_neg (by omega)]
    have h1 := h c h0 hc
    rw [hp] at h1
    exact le_trans (h i hi0 hi) h1
/-- the last one set to the place i: of those ahead of the last -/
theorem swap_inv {i n : Nat} (h : Heap l (n + 1)) (hn : n + 1 = l.length) (hi : i < n) : FixInv (sw l i n) n i := by
  refine ⟨?_, ?_⟩
  · intro k h0 hk hki hkp
    have hpk := par_lt h0
    rw [al_sw (by omega) (by omega), al_sw (by omega) (by omega), if_neg (by omega), if_neg hki, if_neg (by omega), if_neg hkp]
    exact h k h0 (by omega)
  · intro c h0 hc hp hi0
    have hpc := par_lt h0
    have hpi := par_lt hi0
    rw [al_sw (by omega) (by omega), al_sw (by omega) (by omega), if_neg (by omega), if_neg (by omega), if_neg (by omega), if_neg (by omega)]
    have h1 := h c h0 (by omega)
    rw [hp] at h1
    exact le_trans (h i hi0 (by omega)) h1
end Wh
end Go.Proofs.Ytlibhboibkajgaa
