/- A heap of alarms, over lists: up, down, push, pop, remove, fix. No program in sight. The wheel over lists: push, pop, remove, fix keep a heap and what is in it. No program in sight. The wheel over lists: what is in it, and what a tick gives. No program in sight. -/
import Derived.RowKit
/-! ### A heap of alarms, over lists: up, down, push, pop, remove, fix. No program in sight. -/
namespace Go.Proofs.Ytdboehogkmidbaa
set_option linter.unusedVariables false
namespace Wh
/-- an alarm: its number, its time -/
structure Al where
  k : Int
  t : Int
deriving DecidableEq, Inhabited
def Al.nil : Al := ⟨0, 0⟩
def lt (x y : Al) : Prop := x.t < y.t ∨ (x.t = y.t ∧ x.k < y.k)
instance (x y : Al) : Decidable (lt x y) := by unfold lt; exact inferInstance
def al (l : List Al) (i : Nat) : Al := l.getD i Al.nil
def par (i : Nat) : Nat := (i - 1) / 2
def sw (l : List Al) (i j : Nat) : List Al := (l.set i (al l j)).set j (al l i)
def up : Nat → List Al → Nat → List Al
  | 0, l, _ => l
  | f + 1, l, j => if par j = j ∨ ¬ lt (al l j) (al l (par j)) then l else up f (sw l (par j) j) (par j)
/-- the lesser child -/
def kid (l : List Al) (i n : Nat) : Nat := if 2 * i + 2 < n ∧ lt (al l (2 * i + 2)) (al l (2 * i + 1)) then 2 * i + 2 else 2 * i + 1
def down : Nat → List Al → Nat → Nat → List Al × Nat
  | 0, l, i, _ => (l, i)
  | f + 1, l, i, n => if n ≤ 2 * i + 1 then (l, i) else if ¬ lt (al l (kid l i n)) (al l i) then (l, i) else down f (sw l i (kid l i n)) (kid l i n) n
variable {l : List Al}
theorem al_lt {i : Nat} (h : i < l.length) : al l i = l[i] := by simp [al, h]
theorem sw_len (l : List Al) (i j : Nat) : (sw l i j).length = l.length := by simp [sw]
theorem al_set {i j : Nat} {x : Al} (hi : i < l.length) : al (l.set i x) j = if j = i then x else al l j := by
  unfold al
  by_cases h : j = i
  · subst h; simp [hi]
  · rw [if_neg h, List.getD_eq_getElem?_getD, List.getElem?_set_ne (by omega), List.getD_eq_getElem?_getD]
theorem al_sw {i j k : Nat} (hi : i < l.length) (hj : j < l.length) : al (sw l i j) k = if k = j then al l i else if k = i then al l j else al l k := by
  unfold sw
  rw [al_set (by simpa using hj)]
  split
  · rfl
  · rw [al_set hi]
theorem sw_perm {i j : Nat} (hi : i < l.length) (hj : j < l.length) : (sw l i j).Perm l := by
  rw [List.perm_iff_count]
  intro a
  unfold sw
  rw [List.count_set (by simpa using hj), List.count_set hi, al_lt hi, al_lt hj]
  have h1 : (l.set i l[j])[j]'(by simpa using hj) = if i = j then l[j] else l[j] := by
    rw [List.getElem_set]
  rw [h1]
  simp only [ite_self]
  have c1 : (if l[i] == a then 1 else 0) ≤ l.count a := by
    split
    · rename_i h
      have : a ∈ l := by rw [beq_iff_eq] at h; rw [← h]; exact List.getElem_mem hi
      exact List.count_pos_iff.2 this
    · omega
  omega
/-! ### order -/
theorem lt_irrefl (x : Al) : ¬ lt x x := by unfold lt; omega
theorem lt_asymm {x y : Al} (h : lt x y) : ¬ lt y x := by unfold lt at *; omega
theorem le_trans {x y z : Al} (h : ¬ lt y x) (h' : ¬ lt z y) : ¬ lt z x := by unfold lt at *; omega
theorem lt_le {x y z : Al} (h : lt x y) (h' : ¬ lt z y) : ¬ lt z x := by unfold lt at *; omega
/-! ### heaps -/
def Heap (l : List Al) (n : Nat) : Prop := ∀ i, 0 < i → i < n → ¬ lt (al l i) (al l (par i))
structure UpInv (l : List Al) (n j : Nat) : Prop where
  ok : ∀ i, 0 < i → i < n → i ≠ j → ¬ lt (al l i) (al l (par i))
  kids : ∀ c, 0 < c → c < n → par c = j → 0 < j → ¬ lt (al l c) (al l (par j))
structure FixInv (l : List Al) (n i : Nat) : Prop where
  ok : ∀ k, 0 < k → k < n → k ≠ i → par k ≠ i → ¬ lt (al l k) (al l (par k))
  kids : ∀ c, 0 < c → c < n → par c = i → 0 < i → ¬ lt (al l c) (al l (par i))
structure DownInv (l : List Al) (n i : Nat) : Prop where
  ok : ∀ k, 0 < k → k < n → par k ≠ i → ¬ lt (al l k) (al l (par k))
  kids : ∀ c, 0 < c → c < n → par c = i → 0 < i → ¬ lt (al l c) (al l (par i))
theorem par_lt {j : Nat} (h : 0 < j) : par j < j := by unfold par; omega
theorem up_len : ∀ (f : Nat) (l : List Al) (j : Nat), (up f l j).length = l.length
  | 0, l, j => rfl
  | f + 1, l, j => by
    unfold up
    split
    · rfl
    · rw [up_len f, sw_len]
theorem up_perm : ∀ (f : Nat) (l : List Al) (j : Nat), j < l.length → (up f l j).Perm l
  | 0, l, j, h => List.Perm.refl _
  | f + 1, l, j, h => by
    unfold up
    split
    · exact List.Perm.refl _
    · have hp : par j ≤ j := by unfold par; omega
      exact (up_perm f _ _ (by rw [sw_len]; omega)).trans (sw_perm (by omega) h)
theorem up_heap {n : Nat} : ∀ (f : Nat) (l : List Al) (j : Nat), UpInv l n j → j < n → n ≤ l.length → j < f → Heap (up f l j) n
  | 0, l, j, _, _, _, hf => by omega
  | f + 1, l, j, h, hj, hn, hf => by
    unfold up
    split
    · rename_i hc
      intro k hk0 hkn
      by_cases e : k = j
      · subst e
        rcases hc with hc | hc
        · have := par_lt hk0; omega
        · exact hc
      · exact h.ok k hk0 hkn e
    · rename_i hc
      have hc1 : par j ≠ j := fun e => hc (.inl e)
      have hc2 : lt (al l j) (al l (par j)) := Classical.byContradiction fun e => hc (.inr e)
      have hj0 : 0 < j := by
        rcases Nat.eq_zero_or_pos j with h0 | h0
        · subst h0; exact absurd rfl hc1
        · exact h0
      have hp := par_lt hj0
      refine up_heap f _ _ ⟨?_, ?_⟩ (by omega) (by rw [sw_len]; exact hn) (by omega)
      · intro k hk0 hkn hki
        have hpk := par_lt hk0
        rw [al_sw (by omega) (by omega), al_sw (by omega) (by omega), if_neg hki]
        by_cases e1 : k = j
        · subst e1
          rw [if_pos rfl, if_neg (by omega), if_pos rfl]
          exact lt_asymm hc2
        · rw [if_neg e1]
          by_cases e2 : par k = j
          · rw [if_pos e2]
            exact h.kids k hk0 hkn e2 hj0
          · rw [if_neg e2]
            by_cases e3 : par k = par j
            · rw [if_pos e3]
              have := h.ok k hk0 hkn e1
              rw [e3] at this
              exact lt_le hc2 this
            · rw [if_neg e3]
              exact h.ok k hk0 hkn e1
      · intro c hc0 hcn hcp hi0
        have hpp := par_lt hi0
        rw [al_sw (by omega) (by omega), al_sw (by omega) (by omega), if_neg (show par (par j) ≠ j by omega), if_neg (show par (par j) ≠ par j by omega)]
        have hi := h.ok (par j) hi0 (by omega) (by omega)
        by_cases e1 : c = j
        · rw [if_pos e1]; exact hi
        · have e2 : c ≠ par j := by have := par_lt hc0; omega
          rw [if_neg e1, if_neg e2]
          have := h.ok c hc0 hcn e1
          rw [hcp] at this
          exact le_trans hi this
theorem kid_or (l : List Al) (i n : Nat) : kid l i n = 2 * i + 1 ∨ (kid l i n = 2 * i + 2 ∧ 2 * i + 2 < n) := by
  unfold kid
  split
  · rename_i h; exact .inr ⟨rfl, h.1⟩
  · exact .inl rfl
theorem kid_bd {i n : Nat} (h : 2 * i + 1 < n) : i < kid l i n ∧ kid l i n < n ∧ par (kid l i n) = i := by
  unfold par
  rcases kid_or l i n with e | ⟨e, h'⟩ <;> omega
theorem kid_min {i n k : Nat} (h : 2 * i + 1 < n) (hk0 : 0 < k) (hk : k < n) (hp : par k = i) : ¬ lt (al l k) (al l (kid l i n)) := by
  have hk2 : k = 2 * i + 1 ∨ k = 2 * i + 2 := by unfold par at hp; omega
  unfold kid
  split
  · rename_i hc
    rcases hk2 with rfl | rfl
    · exact lt_asymm hc.2
    · exact lt_irrefl _
  · rename_i hc
    rcases hk2 with rfl | rfl
    · exact lt_irrefl _
    · exact fun e => hc ⟨hk, e⟩
theorem down_len : ∀ (f : Nat) (l : List Al) (i n : Nat), (down f l i n).1.length = l.length
  | 0, l, i, n => rfl
  | f + 1, l, i, n => by
    unfold down
    split
    · rfl
    · split
      · rfl
      · rw [down_len f, sw_len]
theorem down_ge : ∀ (f : Nat) (l : List Al) (i n : Nat), i ≤ (down f l i n).2
  | 0, l, i, n => Nat.le_refl _
  | f + 1, l, i, n => by
    unfold down
    split
    · exact Nat.le_refl _
    · split
      · exact Nat.le_refl _
      · have := down_ge f (sw l i (kid l i n)) (kid l i n) n
        have := (kid_bd (l := l) (i := i) (n := n) (by omega)).1
        omega
theorem down_perm : ∀ (f : Nat) (l : List Al) (i n : Nat), n ≤ l.length → (down f l i n).1.Perm l
  | 0, l, i, n, h => List.Perm.refl _
  | f + 1, l, i, n, h => by
    unfold down
    split
    · exact List.Perm.refl _
    · split
      · exact List.Perm.refl _
      · have hb := kid_bd (l := l) (i := i) (n := n) (by omega)
        exact (down_perm f _ _ _ (by rw [sw_len]; exact h)).trans (sw_perm (by omega) (by omega))
/-- what lies behind n stays -/
theorem down_above : ∀ (f : Nat) (l : List Al) (i n k : Nat), n ≤ l.length → n ≤ k → al (down f l i n).1 k = al l k
  | 0, l, i, n, k, h, hk => rfl
  | f + 1, l, i, n, k, h, hk => by
    unfold down
    split
    · rfl
    · split
      · rfl
      · have hb := kid_bd (l := l) (i := i) (n := n) (by omega)
        rw [down_above f _ _ _ _ (by rw [sw_len]; exact h) hk, al_sw (by omega) (by omega), if_neg (by omega), if_neg (by omega)]
theorem up_above {n : Nat} : ∀ (f : Nat) (l : List Al) (j k : Nat), n ≤ l.length → j < n → n ≤ k → al (up f l j) k = al l k
  | 0, l, j, k, h, hj, hk => rfl
  | f + 1, l, j, k, h, hj, hk => by
    unfold up
    split
    · rfl
    · have hp : par j ≤ j := by unfold par; omega
      rw [up_above f _ _ _ (by rw [sw_len]; exact h) (by omega) hk, al_sw (by omega) (by omega), if_neg (by omega), if_neg (by omega)]
theorem down_stop {i n : Nat} (h : FixInv l n i) (hs : n ≤ 2 * i + 1 ∨ ¬ lt (al l (kid l i n)) (al l i)) : UpInv l n i := by
  refine ⟨?_, h.kids⟩
  intro k hk0 hkn hki
  by_cases e : par k = i
  · have h2 : 2 * i + 1 < n := by unfold par at e; omega
    rcases hs with hs | hs
    · omega
    · rw [e]
      exact le_trans hs (kid_min h2 hk0 hkn e)
  · exact h.ok k hk0 hkn hki e
theorem down_step {i n : Nat} (h : FixInv l n i) (hn : n ≤ l.length) (h2 : 2 * i + 1 < n) (hc : lt (al l (kid l i n)) (al l i)) : DownInv (sw l i (kid l i n)) n (kid l i n) := by
  obtain ⟨b1, b2, b3⟩ := kid_bd (l := l) (i := i) (n := n) h2
  obtain ⟨j, hj⟩ : ∃ j, j = kid l i n := ⟨_, rfl⟩
  have hmin := fun k => kid_min (l := l) (i := i) (n := n) (k := k) h2
  rw [← hj] at b1 b2 b3 hc hmin ⊢
  refine ⟨?_, ?_⟩
  · intro k hk0 hkn hkp
    have hpk := par_lt hk0
    rw [al_sw (by omega) (by omega), al_sw (by omega) (by omega), if_neg hkp]
    by_cases e1 : k = j
    · subst e1
      rw [if_pos rfl, b3, if_pos rfl]
      exact lt_asymm hc
    · rw [if_neg e1]
      by_cases e2 : k = i
      · subst e2
        rw [if_pos rfl, if_neg (by omega)]
        exact h.kids j (by omega) b2 b3 hk0
      · rw [if_neg e2]
        by_cases e3 : par k = i
        · rw [if_pos e3]; exact hmin k hk0 hkn e3
        · rw [if_neg e3]; exact h.ok k hk0 hkn e2 e3
  · intro c hc0 hcn hcp hj0
    have hpc := par_lt hc0
    rw [al_sw (by omega) (by omega), al_sw (by omega) (by omega), if_neg (by omega), if_neg (by omega), b3, if_neg (by omega), if_pos rfl]
    have := h.ok c hc0 hcn (by omega) (by omega)
    rw [hcp] at this
    exact this
theorem DownInv.fix {i n : Nat} (h : DownInv l n i) : FixInv l n i := ⟨fun k h0 h1 _ h3 => h.ok k h0 h1 h3, h.kids⟩
theorem down_heap {n : Nat} : ∀ (f : Nat) (l : List Al) (i : Nat), DownInv l n i → n ≤ l.length → n ≤ i + f → Heap (down f l i n).1 n
  | 0, l, i, h, hn, hf => by
    intro k hk0 hkn
    refine h.ok k hk0 hkn ?_
    have := par_lt hk0
    unfold par
    show (k - 1) / 2 ≠ i
    omega
  | f + 1, l, i, h, hn, hf => by
    have stop : (n ≤ 2 * i + 1 ∨ ¬ lt (al l (kid l i n)) (al l i)) → Heap l n := fun hs k hk0 hkn => by
      by_cases e : k = i
      · subst e
        exact h.ok k hk0 hkn (by have := par_lt hk0; omega)
      · exact (down_stop h.fix hs).ok k hk0 hkn e
    unfold down
    split
    · rename_i hc; exact stop (.inl hc)
    · split
      · rename_i hc; exact stop (.inr hc)
      · rename_i hc1 hc2
        have hb := kid_bd (l := l) (i := i) (n := n) (by omega)
        exact down_heap f _ _ (down_step h.fix hn (by omega) (Classical.byContradiction hc2)) (by rw [sw_len]; exact hn) (by omega)
/-- down from a place that may be wrong both ways: it has moved, and all is well; or nothing was done, and up is left -/
theorem down_fix {i n : Nat} (f : Nat) (h : FixInv l n i) (hn : n ≤ l.length) (hf : n ≤ i + f + 1) :
    (i < (down (f + 1) l i n).2 ∧ Heap (down (f + 1) l i n).1 n) ∨ ((down (f + 1) l i n) = (l, i) ∧ UpInv l n i) := by
  unfold down
  split
  · rename_i hc; exact .inr ⟨rfl, down_stop h (.inl hc)⟩
  · split
    · rename_i hc; exact .inr ⟨rfl, down_stop h (.inr hc)⟩
    · rename_i hc1 hc2
      have hb := kid_bd (l := l) (i := i) (n := n) (by omega)
      have hd := down_ge f (sw l i (kid l i n)) (kid l i n) n
      exact .inl ⟨by omega, down_heap f _ _ (down_step h hn (by omega) (Classical.byContradiction hc2)) (by rw [sw_len]; exact hn) (by omega)⟩
theorem heap_min {n : Nat} (h : Heap l n) : ∀ i, i < n → ¬ lt (al l i) (al l 0) := by
  intro i
  induction i using Nat.strongRecOn with
  | _ i ih =>
    intro hi
    rcases Nat.eq_zero_or_pos i with h0 | h0
    · subst h0; exact lt_irrefl _
    · have hp := par_lt h0
      exact le_trans (ih (par i) hp (by omega)) (h i h0 hi)
/-- a heap with one alarm more behind it -/
theorem push_inv {x : Al} (h : Heap l l.length) : UpInv (l ++ [x]) (l.length + 1) l.length := by
  have e : ∀ i, i < l.length → al (l ++ [x]) i = al l i := fun i hi => by unfold al; rw [List.getD_eq_getElem?_getD, List.getElem?_append_left hi, List.getD_eq_getElem?_getD]
  refine ⟨?_, ?_⟩
  · intro i h0 hi hne
    have hp := par_lt h0
    rw [e i (by omega), e _ (by omega)]
    exact h i h0 (by omega)
  · intro c h0 hc hp hl
    have := par_lt h0
    omega
theorem set_inv {i : Nat} {x : Al} (h : Heap l l.length) (hi : i < l.length) : FixInv (l.set i x) l.length i := by
  refine ⟨?_, ?_⟩
  · intro k h0 hk hki hkp
    rw [al_set hi, al_set hi, if_neg hki, if_neg hkp]
    exact h k h0 hk
  · intro c h0 hc hp hi0
    have hpc := par_lt h0
    have hpi := par_lt hi0
    rw [al_set hi, al_set hi, if_neg (by omega), if_neg (by omega)]
    have h1 := h c h0 hc
    rw [hp] at h1
    exact le_trans (h i hi0 hi) h1
/-- the last one set to the place i: of those ahead of the last -/
theorem swap_inv {i n : Nat} (h : Heap l (n + 1)) (hn : n + 1 = l.length) (hi : i < n) : FixInv (sw l i n) n i := by
  refine ⟨?_, ?_⟩
  · intro k h0 hk hki hkp
    have hpk := par_lt h0
    rw [al_sw (by omega) (by omega), al_sw (by omega) (by omega), if_neg (by omega), if_neg hki, if_neg (by omega), if_neg hkp]
    exact h k h0 (by omega)
  · intro c h0 hc hp hi0
    have hpc := par_lt h0
    have hpi := par_lt hi0
    rw [al_sw (by omega) (by omega), al_sw (by omega) (by omega), if_neg (by omega), if_neg (by omega), if_neg (by omega), if_neg (by omega)]
    have h1 := h c h0 (by omega)
    rw [hp] at h1
    exact le_trans (h i hi0 (by omega)) h1
end Wh
end Go.Proofs.Ytdboehogkmidbaa
/-! ### The wheel over lists: push, pop, remove, fix keep a heap and what is in it. No program in sight. -/
namespace Go.Proofs.Ytdboehogkmidbaa
set_option linter.unusedVariables false
namespace Wh
variable {l : List Al}
/-- the program's Fix, Push, Remove and Pop -/
def fixL (l : List Al) (i : Nat) : List Al := let r := down l.length l i l.length; if i < r.2 then r.1 else up (i + 1) r.1 i
def pushL (l : List Al) (x : Al) : List Al := up (l.length + 1) (l ++ [x]) l.length
def remL (l : List Al) (i : Nat) : List Al :=
  let n := l.length - 1
  if n = i then l.take n else
    let r := down n (sw l i n) i n
    (if i < r.2 then r.1 else up (i + 1) r.1 i).take n
theorem heap_take {n : Nat} (h : Heap l n) (hn : n ≤ l.length) : Heap (l.take n) n := by
  intro i h0 hi
  have hp := par_lt h0
  have e : ∀ k, k < n → al (l.take n) k = al l k := fun k hk => by unfold al; rw [List.getD_eq_getElem?_getD, List.getElem?_take_of_lt hk, List.getD_eq_getElem?_getD]
  rw [e i hi, e _ (by omega)]
  exact h i h0 hi
theorem fix_perm {i : Nat} (hi : i < l.length) : (fixL l i).Perm l := by
  unfold fixL
  have h1 := down_perm l.length l i l.length (Nat.le_refl _)
  simp only
  split
  · exact h1
  · exact (up_perm _ _ _ (by rw [down_len]; exact hi)).trans h1
theorem fix_heap {i : Nat} (hi : i < l.length) (h : FixInv l l.length i) : Heap (fixL l i) l.length := by
  unfold fixL
  obtain ⟨f, hf⟩ : ∃ f, l.length = f + 1 := ⟨l.length - 1, by omega⟩
  have hd := down_fix (l := l) (i := i) (n := l.length) f h (Nat.le_refl _) (by omega)
  rw [← hf] at hd
  simp only
  rcases hd with ⟨h1, h2⟩ | ⟨h1, h2⟩
  · rw [if_pos h1]; exact h2
  · rw [h1, if_neg (Nat.lt_irrefl _)]
    exact up_heap _ _ _ h2 hi (Nat.le_refl _) (by omega)
theorem fix_len (l : List Al) (i : Nat) : (fixL l i).length = l.length := by
  unfold fixL
  simp only
  split
  · exact down_len _ _ _ _
  · rw [up_len, down_len]
theorem push_perm (l : List Al) (x : Al) : (pushL l x).Perm (l ++ [x]) := up_perm _ _ _ (by simp)
theorem push_len (l : List Al) (x : Al) : (pushL l x).length = l.length + 1 := by unfold pushL; rw [up_len]; simp
theorem push_heap (h : Heap l l.length) (x : Al) : Heap (pushL l x) (l.length + 1) := up_heap _ _ _ (push_inv h) (by omega) (by simp) (by omega)
theorem take_last {m : List Al} {n : Nat} (h : m.length = n + 1) : m = m.take n ++ [al m n] := by
  rw [al_lt (by omega)]
  apply List.ext_getElem?
  intro k
  by_cases hk : k < n
  · rw [List.getElem?_append_left (by rw [List.length_take]; omega), List.getElem?_take_of_lt hk]
  · by_cases e : k = n
    · subst e
      rw [List.getElem?_append_right (by rw [List.length_take]; omega), List.length_take, Nat.min_eq_left (by omega), Nat.sub_self]
      simp [h]
    · rw [List.getElem?_eq_none (by omega), List.getElem?_eq_none (by simp; omega)]
theorem rem_len {i : Nat} (hi : i < l.length) : (remL l i).length = l.length - 1 := by
  unfold remL
  simp only
  split
  · rw [List.length_take]; omega
  · rw [List.length_take]
    split
    · rw [down_len, sw_len]; omega
    · rw [up_len, down_len, sw_len]; omega
theorem rem_perm {i : Nat} (hi : i < l.length) : (remL l i ++ [al l i]).Perm l := by
  obtain ⟨n, hn⟩ : ∃ n, l.length = n + 1 := ⟨l.length - 1, by omega⟩
  unfold remL
  simp only [hn, Nat.add_sub_cancel]
  by_cases e : n = i
  · rw [if_pos e, ← e]
    exact List.Perm.of_eq (take_last hn).symm
  · rw [if_neg e]
    have hl : (sw l i n).length = n + 1 := by rw [sw_len, hn]
    have p1 := sw_perm (l := l) (i := i) (j := n) hi (by omega)
    have p2 := down_perm n (sw l i n) i n (by omega)
    have a1 : al (sw l i n) n = al l i := by rw [al_sw hi (by omega), if_pos rfl]
    have a2 := down_above n (sw l i n) i n n (by omega) (Nat.le_refl _)
    have l2 : (down n (sw l i n) i n).1.length = n + 1 := by rw [down_len, hl]
    split
    · have := take_last l2
      rw [a2, a1] at this
      rw [← this]
      exact p2.trans p1
    · have p3 := up_perm (i + 1) (down n (sw l i n) i n).1 i (by omega)
      have a3 := up_above (n := n) (i + 1) (down n (sw l i n) i n).1 i n (by omega) (by omega) (Nat.le_refl _)
      have := take_last (m := up (i + 1) (down n (sw l i n) i n).1 i) (n := n) (by rw [up_len, l2])
      rw [a3, a2, a1] at this
      rw [← this]
      exact p3.trans (p2.trans p1)
theorem rem_heap {i : Nat} (hi : i < l.length) (h : Heap l l.length) : Heap (remL l i) (l.length - 1) := by
  obtain ⟨n, hn⟩ : ∃ n, l.length = n + 1 := ⟨l.length - 1, by omega⟩
  rw [hn] at h
  unfold remL
  simp only [hn, Nat.add_sub_cancel]
  by_cases e : n = i
  · rw [if_pos e]
    exact heap_take (fun k h0 hk => h k h0 (by omega)) (by omega)
  · rw [if_neg e]
    have hl : (sw l i n).length = n + 1 := by rw [sw_len, hn]
    obtain ⟨f, hf⟩ : ∃ f, n = f + 1 := ⟨n - 1, by omega⟩
    have hd := down_fix (l := sw l i n) (i := i) (n := n) f (swap_inv h hn.symm (by omega)) (by omega) (by omega)
    rw [← hf] at hd
    rcases hd with ⟨h1, h2⟩ | ⟨h1, h2⟩
    · rw [if_pos h1]
      exact heap_take h2 (by rw [down_len]; omega)
    · rw [h1, if_neg (Nat.lt_irrefl _)]
      exact heap_take (up_heap _ _ _ h2 (by omega) (by show n ≤ (sw l i n).length; omega) (by omega)) (by rw [up_len]; show n ≤ (sw l i n).length; omega)
/-! ### the wheel -/
structure Wok (l : List Al) : Prop where
  heap : Heap l l.length
  dist : (l.map (·.k)).Nodup
theorem Wok.perm {m : List Al} (h : (l.map (·.k)).Nodup) (hp : m.Perm l) : (m.map (·.k)).Nodup := (hp.map _).nodup_iff.2 h
/-- where a number is -/
def place (l : List Al) (k : Int) : Option Nat := l.findIdx? (fun x => x.k == k)
theorem place_some {k : Int} {i : Nat} (h : place l k = some i) : i < l.length ∧ (al l i).k = k := by
  unfold place at h
  rw [List.findIdx?_eq_some_iff_getElem] at h
  obtain ⟨hi, h1, _⟩ := h
  exact ⟨hi, by rw [al_lt hi]; simpa using h1⟩
theorem place_none {k : Int} (h : place l k = none) : ∀ x ∈ l, x.k ≠ k := by
  unfold place at h
  rw [List.findIdx?_eq_none_iff] at h
  intro x hx e
  have := h x hx
  simp [e] at this
theorem nodup_at {i j : Nat} (h : (l.map (·.k)).Nodup) (hi : i < l.length) (hj : j < l.length) (e : (al l i).k = (al l j).k) : i = j := by
  rw [al_lt hi, al_lt hj] at e
  have := (List.getElem_inj (xs := l.map (·.k)) (i := i) (j := j) (h₀ := by simpa using hi) (h₁ := by simpa using hj) h).1 (by simpa using e)
  exact this
theorem place_at {i : Nat} (h : (l.map (·.k)).Nodup) (hi : i < l.length) : place l (al l i).k = some i := by
  cases hp : place l (al l i).k with
  | none =>
    have := place_none hp (al l i) (by rw [al_lt hi]; exact List.getElem_mem hi)
    exact absurd rfl this
  | some j =>
    obtain ⟨hj, e⟩ := place_some hp
    rw [nodup_at h hj hi e]
/-- an alarm set, be it new or not: what is in it then -/
def setL (l : List Al) (k t : Int) : List Al := match place l k with
  | some i => fixL (l.set i ⟨k, t⟩) i
  | none => pushL l ⟨k, t⟩
/-- all that are due, first things first -/
def tickL : Nat → List Al → Int → List Al × List Al
  | 0, l, _ => ([], l)
  | f + 1, l, now => if 0 < l.length ∧ (al l 0).t ≤ now then let r := tickL f (remL l 0) now; (al l 0 :: r.1, r.2) else ([], l)
end Wh
end Go.Proofs.Ytdboehogkmidbaa
/-! ### The wheel over lists: what is in it, and what a tick gives. No program in sight. -/
namespace Go.Proofs.Ytdboehogkmidbaa
set_option linter.unusedVariables false
namespace Wh
variable {l : List Al}
theorem lt_total {x y : Al} (h : x.k ≠ y.k) (h' : ¬ lt y x) : lt x y := by unfold lt at *; omega
theorem lt_trans {x y z : Al} (h : lt x y) (h' : lt y z) : lt x z := by unfold lt at *; omega
theorem mem_al {x : Al} (hx : x ∈ l) : ∃ i, i < l.length ∧ al l i = x := by
  obtain ⟨i, hi, rfl⟩ := List.mem_iff_getElem.1 hx
  exact ⟨i, hi, al_lt hi⟩
theorem al_mem {i : Nat} (hi : i < l.length) : al l i ∈ l := by rw [al_lt hi]; exact List.getElem_mem hi
theorem key_inj {x y : Al} (h : (l.map (·.k)).Nodup) (hx : x ∈ l) (hy : y ∈ l) (e : x.k = y.k) : x = y := by
  obtain ⟨i, hi, rfl⟩ := mem_al hx
  obtain ⟨j, hj, rfl⟩ := mem_al hy
  rw [nodup_at h hi hj e]
theorem Wok.rem {i : Nat} (h : Wok l) (hi : i < l.length) : Wok (remL l i) := by
  refine ⟨by rw [rem_len hi]; exact rem_heap hi h.heap, ?_⟩
  have h1 : ((remL l i ++ [al l i]).map (·.k)).Nodup := Wok.perm h.dist (rem_perm hi)
  rw [List.map_append] at h1
  exact (List.nodup_append.1 h1).1
theorem mem_rem {i : Nat} (h : (l.map (·.k)).Nodup) (hi : i < l.length) (x : Al) : x ∈ remL l i ↔ x ∈ l ∧ x.k ≠ (al l i).k := by
  have hp := rem_perm hi
  have h1 : ((remL l i ++ [al l i]).map (·.k)).Nodup := Wok.perm h hp
  rw [List.map_append, List.nodup_append] at h1
  constructor
  · intro hx
    exact ⟨hp.mem_iff.1 (List.mem_append_left _ hx), h1.2.2 _ (List.mem_map_of_mem hx) _ (by simp)⟩
  · rintro ⟨hx, hk⟩
    rcases List.mem_append.1 (hp.mem_iff.2 hx) with h2 | h2
    · exact h2
    · rw [List.mem_singleton] at h2
      exact absurd (by rw [h2]) hk
theorem tick_law (t : Int) : ∀ (f : Nat) (l : List Al), Wok l → l.length < f →
    ((tickL f l t).1 ++ (tickL f l t).2).Perm l ∧ (∀ x ∈ (tickL f l t).1, x.t ≤ t) ∧ (∀ x ∈ (tickL f l t).2, t < x.t) ∧ (tickL f l t).1.Pairwise lt ∧ Wok (tickL f l t).2 := by
  intro f
  induction f with
  | zero => intro l _ h; omega
  | succ f ih =>
    intro l h hl
    unfold tickL
    by_cases hc : 0 < l.length ∧ (al l 0).t ≤ t
    · rw [if_pos hc]
      obtain ⟨hc1, hc2⟩ := hc
      obtain ⟨p, a, b, c, d⟩ := ih (remL l 0) (h.rem hc1) (by rw [rem_len hc1]; omega)
      simp only
      have hp := rem_perm hc1
      refine ⟨?_, ?_, b, ?_, d⟩
      · refine List.Perm.trans ?_ hp
        exact (List.Perm.cons _ p).trans (List.perm_append_singleton (al l 0) (remL l 0)).symm
      · intro x hx
        rcases List.mem_cons.1 hx with rfl | hx
        · exact hc2
        · exact a x hx
      · refine List.pairwise_cons.2 ⟨fun y hy => ?_, c⟩
        have hy2 : y ∈ remL l 0 := p.mem_iff.1 (List.mem_append_left _ hy)
        obtain ⟨hy3, hy4⟩ := (mem_rem h.dist hc1 y).1 hy2
        obtain ⟨i, hi, rfl⟩ := mem_al hy3
        exact lt_total (fun e => hy4 e.symm) (heap_min h.heap i hi)
    · rw [if_neg hc]
      simp only
      refine ⟨List.Perm.refl _, by simp, fun x hx => ?_, List.Pairwise.nil, h⟩
      obtain ⟨i, hi, rfl⟩ := mem_al hx
      have h1 := heap_min h.heap i hi
      unfold lt at h1
      omega
theorem sorted_eq : ∀ {a b : List Al}, a.Pairwise lt → b.Pairwise lt → a.Perm b → a = b
  | [], b, _, _, hp => (List.nil_perm.1 hp).symm
  | x :: a, b, ha, hb, hp => by
    cases b with
    | nil => exact absurd (List.perm_nil.1 hp) (by simp)
    | cons y b =>
      rw [List.pairwise_cons] at ha hb
      have e : x = y := by
        rcases List.mem_cons.1 (hp.mem_iff.1 (List.mem_cons_self)) with h | h
        · exact h
        · rcases List.mem_cons.1 (hp.mem_iff.2 (List.mem_cons_self (a := y) (l := b))) with h' | h'
          · exact h'.symm
          · exact absurd (hb.1 x h) (lt_asymm (ha.1 y h'))
      subst e
      rw [sorted_eq ha.2 hb.2 (List.Perm.cons_inv hp)]
theorem set_perm {k t : Int} {i : Nat} (hk : place l k = some i) : (setL l k t).Perm (l.set i ⟨k, t⟩) := by
  unfold setL
  rw [hk]
  exact fix_perm (by simpa using (place_some hk).1)
theorem new_perm {k t : Int} (hk : place l k = none) : (setL l k t).Perm (l ++ [⟨k, t⟩]) := by
  unfold setL
  rw [hk]
  exact push_perm l _
theorem set_len {k t : Int} : (setL l k t).length = if (place l k).isSome then l.length else l.length + 1 := by
  unfold setL
  cases hk : place l k with
  | none => simp [push_len]
  | some i => simp [fix_len]
theorem keys_set {k t : Int} {i : Nat} (hk : place l k = some i) : (l.set i ⟨k, t⟩).map (·.k) = l.map (·.k) := by
  obtain ⟨hi, h2⟩ := place_some hk
  rw [List.map_set]
  have : (l.map (·.k))[i]'(by simpa using hi) = k := by rw [← h2, al_lt hi]; simp
  conv => lhs; rw [← this]
  rw [List.set_getElem_self]
theorem Wok.set (h : Wok l) (k t : Int) : Wok (setL l k t) := by
  cases hk : place l k with
  | some i =>
    obtain ⟨hi, h2⟩ := place_some hk
    refine ⟨?_, Wok.perm (by rw [keys_set hk]; exact h.dist) (set_perm hk)⟩
    have e : setL l k t = fixL (l.set i ⟨k, t⟩) i := by unfold setL; rw [hk]
    rw [e, fix_len]
    refine fix_heap (by simpa using hi) ?_
    rw [List.length_set]
    exact set_inv h.heap hi
  | none =>
    have e : setL l k t = pushL l ⟨k, t⟩ := by unfold setL; rw [hk]
    refine ⟨by rw [e, push_len]; exact push_heap h.heap _, Wok.perm ?_ (new_perm hk)⟩
    rw [List.map_append, List.nodup_append]
    refine ⟨h.dist, by simp, fun a ha b hb => ?_⟩
    obtain ⟨y, hy, rfl⟩ := List.mem_map.1 ha
    simp only [List.map_cons, List.map_nil, List.mem_singleton] at hb
    subst hb
    exact place_none hk y hy
theorem mem_set (h : (l.map (·.k)).Nodup) {k t : Int} (x : Al) : x ∈ setL l k t ↔ x = ⟨k, t⟩ ∨ (x ∈ l ∧ x.k ≠ k) := by
  cases hk : place l k with
  | none =>
    rw [(new_perm hk).mem_iff, List.mem_append, List.mem_singleton]
    constructor
    · rintro (hx | hx)
      · exact Or.inr ⟨hx, place_none hk x hx⟩
      · exact Or.inl hx
    · rintro (hx | hx)
      · exact Or.inr hx
      · exact Or.inl hx.1
  | some i =>
    obtain ⟨hi, h2⟩ := place_some hk
    rw [(set_perm hk).mem_iff]
    constructor
    · intro hx
      obtain ⟨j, hj, rfl⟩ := List.mem_iff_getElem.1 hx
      rw [List.length_set] at hj
      rw [List.getElem_set]
      split
      · exact Or.inl rfl
      · rename_i hne
        refine Or.inr ⟨List.getElem_mem hj, fun e => hne ?_⟩
        rw [← al_lt hj] at e
        exact nodup_at h hi hj (by rw [h2, e])
    · rintro (rfl | ⟨hx, hne⟩)
      · exact List.mem_iff_getElem.2 ⟨i, by simpa using hi, by simp⟩
      · obtain ⟨j, hj, rfl⟩ := List.mem_iff_getElem.1 hx
        refine List.mem_iff_getElem.2 ⟨j, by simpa using hj, ?_⟩
        rw [List.getElem_set, if_neg]
        intro e
        subst e
        rw [← al_lt hj, h2] at hne
        exact hne rfl
theorem Wok.nil : Wok ([] : List Al) := ⟨fun i h0 hi => absurd hi (by simp), by simp⟩
end Wh
end Go.Proofs.Ytdboehogkmidbaa
