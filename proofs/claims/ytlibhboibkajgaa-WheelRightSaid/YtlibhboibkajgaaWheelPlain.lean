/- The wheel over lists: push, pop, remove, fix keep a heap and what is in it. No program in sight. -/
import Derived.Test.YtlibhboibkajgaaHeapPlain
namespace Go.Proofs.Ytlibhboibkajgaa
set_option linter.unusedVariables false
namespace Wh
variable {l : List Al}
/-- the program's Fix, Push, Remove and Pop -/
def fixL (l : List Al) (i : Nat) : List Al := let r := down l.length l i l.length; if i < r.2 then r.1 else up (i + 1) r.1 i
def pushL (l : List Al) (x : Al) : List Al := up (l.length + 1) (l ++ [x]) l.length
def remL (l : List Al) (i : Nat) : List Al :=
  let n := l.length - 1
  if n = i then l.take n else
    let r := down n (sw l i n) i n
    (if i < r.2 then r.1 else up (i + 1) r.1 i).take n
theorem heap_take {n : Nat} (h : Heap l n) (hn : n ≤ l.length) : Heap (l.take n) n := by
  intro i h0 hi
  have hp := par_lt h0
  have e : ∀ k, k < n → al (l.take n) k = al l k := fun k hk => by unfold al; rw [List.getD_eq_getElem?_getD, List.getElem?_take_of_lt hk, List.getD_eq_getElem?_getD]
  rw [e i hi, e _ (by omega)]
  exact h i h0 hi
theorem fix_perm {i : Nat} (hi : i < l.length) : (fixL l i).Perm l := by
  unfold fixL
  have h1 := down_perm l.length l i l.length (Nat.le_refl _)
  simp only
  split
  · exact h1
  · exact (up_perm _ _ _ (by rw [down_len]; exact hi)).trans h1
theorem fix_heap {i : Nat} (hi : i < l.length) (h : FixInv l l.length i) : Heap (fixL l i) l.length := by
  unfold fixL
  obtain ⟨f, hf⟩ : ∃ f, l.length = f + 1 := ⟨l.length - 1, by omega⟩
  have hd := down_fix (l := l) (i := i) (n := l.length) f h (Nat.le_refl _) (by omega)
  rw [← hf] at hd
  simp only
  rcases hd with ⟨h1, h2⟩ | ⟨h1, h2⟩
  · rw [if_pos h1]; exact h2
  · rw [h1, if_neg (Nat.lt_irrefl _)]
    exact up_heap _ _ _ h2 hi (Nat.le_refl _) (by omega)
theorem fix_len (l : List Al) (i : Nat) : (fixL l i).length = l.length := by
  unfold fixL
  simp only
  split
  · exact down_len _ _ _ _
  · rw [up_len, down_len]
theorem push_perm (l : List Al) (x : Al) : (pushL l x).Perm (l ++ [x]) := up_perm _ _ _ (by simp)
theorem push_len (l : List Al) (x : Al) : (pushL l x).length = l.length + 1 := by unfold pushL; rw [up_len]; simp
theorem push_heap (h : Heap l l.length) (x : Al) : Heap (pushL l x) (l.length + 1) := up_heap _ _ _ (push_inv h) (by omega) (by simp) (by omega)
theorem take_last {m : List Al} {n : Nat} (h : m.length = n + 1) : m = m.take n ++ [al m n] := by
  rw [al_lt (by omega)]
  apply List.ext_getElem?
  intro k
  by_cases hk : k < n
  · rw [List.getElem?_append_left (by rw [List.length_take]; omega), List.getElem?_take_of_lt hk]
  · by_cases e : k = n
    · subst e
      rw [List.getElem?_append_right (by rw [List.length_take]; omega), List.length_take, Nat.min_eq_left (by omega), Nat.sub_self]
      simp [h]
    · rw [List.getElem?_eq_none (by omega), List.getElem?_eq_none (by simp; omega)]
theorem rem_len {i : Nat} (hi : i < l.length) : (remL l i).length = l.length - 1 := by
  unfold remL
  simp only
  split
  · rw [List.length_take]; omega
  · rw [List.length_take]
    split
    · rw [down_len, sw_len]; omega
    · rw [up_len, down_len, sw_len]; omega
theorem rem_perm {i : Nat} (hi : i < l.length) : (remL l i ++ [al l i]).Perm l := by
  obtain ⟨n, hn⟩ : ∃ n, l.length = n + 1 := ⟨l.length - 1, by omega⟩
  unfold remL
  simp only [hn, Nat.add_sub_cancel]
  by_cases e : n = i
  · rw [if_pos e, ← e]
    exact List.Perm.of_eq (take_last hn).symm
  · rw [if_neg e]
    have hl : (sw l i n).length = n + 1 := by rw [sw_len, hn]
    have p1 := sw_perm (l := l) (i := i) (j := n) hi (by omega)
    have p2 := down_perm n (sw l i n) i n (by omega)
    have a1 : al (sw l i n) n = al l i := by rw [al_sw hi (by omega), if_pos rfl]
    have a2 := down_above n (sw l i n) i n n (by omega) (Nat.le_refl _)
    have l2 : (down n (sw l i n) i n).1.length = n + 1 := by rw [down_len, hl]
    split
    · have := take_last l2
      rw [a2, a1] at this
      rw [← this]
      exact p2.trans p1
    · have p3 := up_perm (i + 1) (down n (sw l i n) i n).1 i (by omega)
      have a3 := up_above (n := n) (i + 1) (down n (sw l i n) i n).1 i n (by omega) (by omega) (Nat.le_refl _)
      have := take_last (m := up (i + 1) (down n (sw l i n) i n).1 i) (n := n) (by rw [up_len, l2])
      rw [a3, a2, a1] at this
      rw [← this]
      exact p3.trans (p2.trans p1)
theorem rem_heap {i : Nat} (hi : i < l.length) (h : Heap l l.length) : Heap (remL l i) (l.length - 1) := by
  obtain ⟨n, hn⟩ : ∃ n, l.length = n + 1 := ⟨l.length - 1, by omega⟩
  rw [hn] at h
  unfold remL
  simp only [hn, Nat.add_sub_cancel]
  by_cases e : n = i
  · rw [if_pos e]
    exact heap_take (fun k h0 hk => h k h0 (by omega)) (by omega)
  · rw [if_neg e]
    have hl : (sw l i n).length = n + 1 := by rw [sw_len, hn]
    obtain ⟨f, hf⟩ : ∃ f, n = f + 1 := ⟨n - 1, by omega⟩
    have hd := down_fix (l := sw l i n) (i := i) (n := n) f (swap_inv h hn.symm (by omega)) (by omega) (by omega)
    rw [← hf] at hd
    rcases hd with ⟨h1, h2⟩ | ⟨h1, h2⟩
    · rw [if_pos h1]
      exact heap_take h2 (by rw [down_len]; omega)
    · rw [h1, if_neg (Nat.lt_irrefl _)]
      exact heap_take (up_heap _ _ _ h2 (by omega) (by show n ≤ (sw l i n).length; omega) (by omega)) (by rw [up_len]; show n ≤ (sw l i n).length; omega)
/-! ### the wheel -/
structure Wok (l : List Al) : Prop where
  heap : Heap l l.length
  dist : (l.map (·.k)).Nodup
theorem Wok.perm {m : List Al} (h : (l.map (·.k)).Nodup) (hp : m.Perm l) : (m.map (·.k)).Nodup := (hp.map _).nodup_iff.2 h
/-- where a number is -/
def place (l : List Al) (k : Int) : Option Nat := l.findIdx? (fun x => x.k == k)
theorem place_some {k : Int} {i : Nat} (h : place l k = some i) : i < l.length ∧ (al l i).k = k := by
  unfold place at h
  rw [List.findIdx?_eq_some_iff_getElem] at h
  obtain ⟨hi, h1, _⟩ := h
  exact ⟨hi, by rw [al_lt hi]; simpa using h1⟩
theorem place_none {k : Int} (h : place l k = none) : ∀ x ∈ l, x.k ≠ k := by
  unfold place at h
  rw [List.findIdx?_eq_none_iff] at h
  intro x hx e
  have := h x hx
  simp [e] at this
theorem nodup_at {i j : Nat} (h : (l.map (·.k)).Nodup) (hi : i < l.length) (hj : j < l.length) (e : (al l i).k = (al l j).k) : i = j := by
  rw [al_lt hi, al_lt hj] at e
  have := (List.getElem_inj (xs := l.map (·.k)) (i := i) (j := j) (h₀ := by simpa using hi) (h₁ := by simpa using hj) h).1 (by simpa using e)
  exact this
theorem place_at {i : Nat} (h : (l.map (·.k)).Nodup) (hi : i < l.length) : place l (al l i).k = some i := by
  cases hp : place l (al l i).k with
  | none =>
    have := place_none hp (al l i) (by rw [al_lt hi]; exact List.getElem_mem hi)
    exact absurd rfl this
  | some j =>
    obtain ⟨hj, e⟩ := place_some hp
    rw [nodup_at h hj hi e]
/-- an alarm set, be it new or not: what is in it then -/
def setL (l : List Al) (k t : Int) : List Al := match place l k with
  | some i => fixL (l.set i ⟨k, t⟩) i
  | none => pushL l ⟨k, t⟩
/-- all that are due, first things first -/
def tickL : Nat → List Al → Int → List Al × List Al
  | 0, l, _ => ([], l)
  | f + 1, l, now => if 0 < l.length ∧ (al l 0).t ≤ now then let r := tickL f (remL l 0) now; (al l 0 :: r.1, r.2) else ([], l)
end Wh
end Go.Proofs.Ytlibhboibkajgaa
