/- Sums of bytes: what package csum computes, over Int. No program in sight. -/
import Derived.RowKit
namespace Go.Proofs.Ytodcbejdlnikgaa
open Go.RowKit
set_option linter.unusedVariables false
namespace Csum
def fold (n : Int) : Int := if n = 0 then 0 else (n - 1) % 65535 + 1
/-- the words' total; p: does the next byte stand high? -/
def tot : Bool → List Int → Int
  | _, [] => 0
  | p, x :: r => (if p then 256 * x else x) + tot (!p) r
def sum (l : List Int) : Int := fold (tot true l)
theorem fold_bd {n : Int} (h : 0 ≤ n) : 0 ≤ fold n ∧ fold n ≤ 65535 := by unfold fold; split <;> omega
theorem fold_small {n : Int} (h : 0 ≤ n) (h' : n ≤ 65535) : fold n = n := by unfold fold; split <;> omega
theorem fold_fold {a b : Int} (ha : 0 ≤ a) (hb : 0 ≤ b) : fold (fold a + b) = fold (a + b) := by
  unfold fold; split <;> split <;> split <;> omega
theorem fold_step {n : Int} (h : 65536 ≤ n) : fold (n % 65536 + n / 65536) = fold n := by
  unfold fold; split <;> split <;> omega
theorem tot_append (p : Bool) (a b : List Int) : tot p (a ++ b) = tot p a + tot (p ^^ decide (a.length % 2 = 1)) b := by
  induction a generalizing p with
  | nil => simp [tot]
  | cons x r ih =>
    simp only [List.cons_append, tot, ih, List.length_cons]
    have e : (!p ^^ decide (r.length % 2 = 1)) = (p ^^ decide ((r.length + 1) % 2 = 1)) := by
      have : (r.length + 1) % 2 = 1 ↔ ¬ r.length % 2 = 1 := by omega
      simp only [this]
      cases p <;> cases h : decide (r.length % 2 = 1) <;> simp_all
    rw [e]; omega
theorem tot_nonneg (p : Bool) (l : List Int) (h : ∀ x ∈ l, 0 ≤ x ∧ x ≤ 255) : 0 ≤ tot p l ∧ tot p l ≤ 65280 * l.length := by
  induction l generalizing p with
  | nil => simp [tot]
  | cons x r ih =>
    have h1 := h x (by simp)
    have h2 := ih (!p) (fun y hy => h y (by simp [hy]))
    simp only [tot, List.length_cons]
    constructor <;> (split <;> omega)
theorem tot_snoc (l : List Int) (k : Nat) (hk : k < l.length) :
    tot true (l.take (k + 1)) = tot true (l.take k) + (if k % 2 = 0 then 256 * l.getD k 0 else l.getD k 0) := by
  rw [List.take_succ_eq_append_getElem hk, tot_append]
  have e : (l.take k).length = k := by simp; omega
  rw [e]
  have g : l.getD k 0 = l[k] := by simp [hk]
  rw [g]
  rcases Nat.mod_two_eq_zero_or_one k with h | h <;> simp [h, tot]
/-- the words of bytes -/
def words : List Int → List Int
  | [] => []
  | [x] => [256 * x]
  | x :: y :: r => (256 * x + y) :: words r
theorem words_append : ∀ (a b : List Int), a.length % 2 = 0 → words (a ++ b) = words a ++ words b
  | [], b, _ => rfl
  | [x], b, h => by simp at h
  | x :: y :: r, b, h => by
    simp only [List.cons_append, words]
    rw [words_append r b (by simp only [List.length_cons] at h; omega)]
theorem words_sum : ∀ (l : List Int), (words l).sum = tot true l
  | [] => rfl
  | [x] => by simp [words, tot]
  | x :: y :: r => by
    simp only [words, tot, List.sum_cons, words_sum r]; simp; omega
theorem words_len : ∀ (l : List Int), (words l).length = (l.length + 1) / 2
  | [] => rfl
  | [x] => by simp [words]
  | x :: y :: r => by simp only [words, List.length_cons, words_len r]; omega
theorem words_bd : ∀ (l : List Int), (∀ x ∈ l, 0 ≤ x ∧ x ≤ 255) → ∀ x ∈ words l, 0 ≤ x ∧ x ≤ 65535
  | [], _, x, hx => by simp [words] at hx
  | [y], h, x, hx => by
    have := h y (by simp)
    simp [words] at hx; omega
  | y :: z :: r, h, x, hx => by
    have h1 := h y (by simp)
    have h2 := h z (by simp)
    simp only [words, List.mem_cons] at hx
    rcases hx with rfl | hx
    · omega
    · exact words_bd r (fun a ha => h a (by simp [ha])) x hx
theorem words_take2 (l : List Int) (k : Nat) (hk : k % 2 = 0) (h : k + 1 < l.length) :
    words (l.take (k + 2)) = words (l.take k) ++ [l[k]?.getD 0 * 256 + l[k + 1]?.getD 0] := by
  have e : l.take (k + 2) = l.take k ++ [l[k], l[k + 1]] := by
    rw [List.take_succ_eq_append_getElem h, List.take_succ_eq_append_getElem (by omega), List.append_assoc]; rfl
  rw [e, words_append _ _ (by simp; omega)]
  simp [words, h, show k < l.length by omega]; omega
theorem words_take1 (l : List Int) (k : Nat) (hk : k % 2 = 0) (h : k + 1 = l.length) :
    words (l.take (k + 2)) = words (l.take k) ++ [l[k]?.getD 0 * 256] := by
  have e : l.take (k + 2) = l.take k ++ [l[k]] := by
    rw [List.take_of_length_le (by omega), ← List.take_succ_eq_append_getElem (by omega), List.take_of_length_le (by omega)]
  rw [e, words_append _ _ (by simp; omega)]
  simp [words, show k < l.length by omega]; omega
theorem sum_nonneg : ∀ (l : List Int), (∀ x ∈ l, 0 ≤ x ∧ x ≤ 65535) → 0 ≤ l.sum
  | [], _ => by simp
  | x :: r, h => by
    have := h x (by simp)
    have := sum_nonneg r (fun y hy => h y (by simp [hy]))
    simp only [List.sum_cons]; omega
theorem sum_take (l : List Int) (k : Nat) (x : Int) (h : l[k]? = some x) : (l.take (k + 1)).sum = (l.take k).sum + x := by
  obtain ⟨hk, rfl⟩ := List.getElem?_eq_some_iff.1 h
  rw [List.take_succ_eq_append_getElem hk, List.sum_append]; simp
end Csum
end Go.Proofs.Ytodcbejdlnikgaa
