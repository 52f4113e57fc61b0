/- Sums of bytes, on: one byte set; all bytes 0. No program in sight. -/
import Derived.Test.YtodcbejdlnikgaaCsumPlain
import Derived.WalkKit
namespace Go.Proofs.Ytodcbejdlnikgaa
open Go.RowKit
set_option linter.unusedVariables false
namespace Csum
theorem tot_set : ∀ (l : List Int) (p : Bool) (j : Nat) (x a : Int), l[j]? = some x → tot p (l.set j a) = tot p l + (if (p ^^ decide (j % 2 = 1)) then 256 * (a - x) else a - x)
  | [], p, j, x, a, h => by simp at h
  | y :: r, p, 0, x, a, h => by
    simp at h; subst h
    simp only [List.set_cons_zero, tot, Nat.zero_mod]
    cases p <;> simp <;> omega
  | y :: r, p, j + 1, x, a, h => by
    have ih := tot_set r (!p) j x a (by simpa using h)
    simp only [List.set_cons_succ, tot, ih]
    have e : (!p ^^ decide (j % 2 = 1)) = (p ^^ decide ((j + 1) % 2 = 1)) := by
      have : (j + 1) % 2 = 1 ↔ ¬ j % 2 = 1 := by omega
      simp only [this]
      cases p <;> cases h : decide (j % 2 = 1) <;> simp_all
    rw [e]; omega
def allz (l : List Int) : Bool := l.all (· == 0)
theorem allz_tot : ∀ (l : List Int) (p : Bool), (∀ x ∈ l, 0 ≤ x ∧ x ≤ 255) → (allz l = true ↔ tot p l = 0)
  | [], p, _ => by simp [allz, tot]
  | x :: r, p, h => by
    have hx := h x (by simp)
    have hr : ∀ y ∈ r, 0 ≤ y ∧ y ≤ 255 := fun y hy => h y (by simp [hy])
    have ih := allz_tot r (!p) hr
    have hn := (tot_nonneg (!p) r hr).1
    have e : allz (x :: r) = (x == 0 && allz r) := rfl
    rw [e, Bool.and_eq_true, beq_iff_eq, ih]
    simp only [tot]
    split <;> omega
theorem allz_take (l : List Int) (k : Nat) (x : Int) (h : l[k]? = some x) : allz (l.take (k + 1)) = (allz (l.take k) && (x == 0)) := by
  obtain ⟨hk, rfl⟩ := List.getElem?_eq_some_iff.1 h
  unfold allz
  rw [List.take_succ_eq_append_getElem hk, List.all_append]; simp only [List.all_cons, List.all_nil, Bool.and_true]
/-- a word is set -/
theorem tot_word (l : List Int) (k : Nat) (x y a b : Int) (hx : l[2 * k]? = some x) (hy : l[2 * k + 1]? = some y) :
    tot true ((l.set (2 * k) a).set (2 * k + 1) b) = tot true l - (x * 256 + y) + (a * 256 + b) := by
  rw [tot_set _ true (2 * k + 1) y b (by rw [List.getElem?_set_ne (by omega)]; exact hy), tot_set _ true (2 * k) x a hx]
  have e1 : decide ((2 * k + 1) % 2 = 1) = true := by rw [decide_eq_true_eq]; omega
  have e2 : decide ((2 * k) % 2 = 1) = false := by simp
  rw [e1, e2]; simp; omega
theorem isB_set {l : List Int} (h : ∀ x ∈ l, 0 ≤ x ∧ x ≤ 255) (k : Nat) {a : Int} (ha : 0 ≤ a ∧ a ≤ 255) : ∀ x ∈ l.set k a, 0 ≤ x ∧ x ≤ 255 := by
  intro x hx
  rcases List.mem_or_eq_of_mem_set hx with h1 | rfl
  · exact h x h1
  · exact ha
theorem mends_plain (l : List Int) (k : Nat) (x y now : Int) (hb : ∀ x ∈ l, 0 ≤ x ∧ x ≤ 255) (hx : l[2 * k]? = some x) (hy : l[2 * k + 1]? = some y) (h0 : 0 ≤ now) (h1 : now ≤ 65535)
    (l2 : List Int) (e2 : l2 = (l.set (2 * k) (now / 256)).set (2 * k + 1) (now % 256)) :
    (allz l2 = true → (65535 - sum l2 == 65535) = true) ∧
    (allz l2 = false → (65535 - fold (65535 - (65535 - sum l) + (65535 - (x * 256 + y)) + now) == 65535 - sum l2) = true) := by
  have hb2 : ∀ x ∈ l2, 0 ≤ x ∧ x ≤ 255 := by rw [e2]; exact isB_set (isB_set hb _ ⟨by omega, by omega⟩) _ ⟨by omega, by omega⟩
  have hz := allz_tot l2 true hb2
  have hn := (tot_nonneg true l hb).1
  have hn2 := (tot_nonneg true l2 hb2).1
  have ht : tot true l2 = tot true l - (x * 256 + y) + now := by rw [e2, tot_word l k x y _ _ hx hy]; omega
  have bx := hb x (List.mem_of_getElem? hx)
  have by_ := hb y (List.mem_of_getElem? hy)
  have hle : tot true l = 0 → x = 0 ∧ y = 0 := by
    intro h
    have ha := (allz_tot l true hb).2 h
    have hh : ∀ z ∈ l, z = 0 := by simpa [allz] using ha
    exact ⟨hh x (List.mem_of_getElem? hx), hh y (List.mem_of_getElem? hy)⟩
  constructor
  · intro h
    rw [beq_iff_eq]; unfold sum; rw [hz.1 h]; rfl
  · intro h
    have hnz : tot true l2 ≠ 0 := fun hh => by rw [hz.2 hh] at h; cases h
    rw [beq_iff_eq]
    have e : 65535 - (65535 - sum l) + (65535 - (x * 256 + y)) + now = fold (tot true l) + (65535 - (x * 256 + y) + now) := by unfold sum; omega
    rw [e, fold_fold hn (by omega)]
    have e' : tot true l + (65535 - (x * 256 + y) + now) = tot true l2 + 65535 := by omega
    rw [e']
    unfold sum fold
    rw [if_neg (by omega), if_neg hnz]; omega
theorem stands_plain (l : List Int) (k : Nat) (hb : ∀ x ∈ l, 0 ≤ x ∧ x ≤ 255) (hk : 2 * k + 1 < l.length) (h0 : l[2 * k]? = some 0) (h1 : l[2 * k + 1]? = some 0)
    (l2 : List Int) (e2 : l2 = (l.set (2 * k) ((65535 - sum l) / 256)).set (2 * k + 1) ((65535 - sum l) % 256)) :
    sum l2 = 65535 ∧ (∀ x ∈ l2, 0 ≤ x ∧ x ≤ 255) ∧
    ∀ (j : Nat) (v v' : Int), l2[j]? = some v → 0 ≤ v' → v' ≤ 255 → v' ≠ v → sum (l2.set j v') ≠ 65535 := by
  have hn := (tot_nonneg true l hb).1
  obtain ⟨s0, s1⟩ : 0 ≤ sum l ∧ sum l ≤ 65535 := fold_bd hn
  have hb2 : ∀ x ∈ l2, 0 ≤ x ∧ x ≤ 255 := by rw [e2]; exact isB_set (isB_set hb _ ⟨by omega, by omega⟩) _ ⟨by omega, by omega⟩
  have ht : tot true l2 = tot true l + (65535 - sum l) := by rw [e2, tot_word l k 0 0 _ _ h0 h1]; omega
  have hm : tot true l2 % 65535 = 0 ∧ 0 < tot true l2 := by
    rw [ht]; unfold sum fold; split <;> omega
  refine ⟨by unfold sum fold; rw [if_neg (by omega)]; omega, hb2, ?_⟩
  intro j v v' hv hv0 hv1 hne
  have bv := hb2 v (List.mem_of_getElem? hv)
  unfold sum
  rw [tot_set l2 true j v v' hv]
  obtain ⟨hm1, hm2⟩ := hm
  unfold fold
  split
  · split <;> omega
  · split <;> omega
theorem xor_facts (v x : Int) (hv0 : 0 ≤ v) (hv1 : v ≤ 255) (hx0 : 0 ≤ x) (hx1 : x ≤ 255) (hx : x ≠ 0) : 0 ≤ bits .xor .u8 v x ∧ bits .xor .u8 v x ≤ 255 ∧ bits .xor .u8 v x ≠ v := by
  rw [u8_xor v x hv0 (by omega) hx0 (by omega)]
  have h1 : v.toNat ^^^ x.toNat < 2 ^ 8 := Nat.xor_lt_two_pow (by omega) (by omega)
  refine ⟨by omega, by omega, fun h => ?_⟩
  have h2 : v.toNat ^^^ x.toNat = v.toNat := by omega
  have h3 : v.toNat ^^^ (v.toNat ^^^ x.toNat) = x.toNat := by rw [← Nat.xor_assoc, Nat.xor_self, Nat.zero_xor]
  rw [h2, Nat.xor_self] at h3
  omega
end Csum
end Go.Proofs.Ytodcbejdlnikgaa
