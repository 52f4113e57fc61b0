/- The reference's digest over numbers: what its loops hold. No program in sight. -/
import Derived.Test.YtpidpbjbgjkaaaaDoorShaPad
namespace Go.Proofs.YtpidpbjbgjkaaaaDoor
open Go.RowKit
set_option linter.unusedVariables false
namespace Sha
/-- the bytes, the mark, and so many noughts -/
def mz (l : List Int) (k : Nat) : List Int := l ++ [128] ++ List.replicate k 0
theorem mz_len (l : List Int) (k : Nat) : (mz l k).length = l.length + 1 + k := by simp [mz]; omega
theorem mz_snoc (l : List Int) (k : Nat) : mz l k ++ [0] = mz l (k + 1) := by simp [mz, List.replicate_succ']
def zn (n : Nat) : Nat := psize n - n - 9
theorem zn_mod {n k : Nat} (hk : k ≤ zn n) : (n + 1 + k) % 64 = 56 ↔ k = zn n := by unfold zn psize at *; omega
theorem zn_sum (n : Nat) : n + 1 + zn n + 8 = psize n := by unfold zn psize; omega
theorem pad_mz (l : List Int) : pad l = mz l (zn l.length) ++ tail8 l.length := rfl
theorem tail8_snoc (n i : Nat) (hi : i < 8) : (tail8 n).take (i + 1) = (tail8 n).take i ++ [((n * 8 / 256 ^ (7 - i) % 256 : Nat) : Int)] := by
  have h : (tail8 n)[i]? = some ((n * 8 / 256 ^ (7 - i) % 256 : Nat) : Int) := by
    rw [tail8, List.getElem?_map, List.getElem?_range hi]; rfl
  rw [List.take_add_one, h]; rfl
theorem tail8_all (n : Nat) : (tail8 n).take 8 = tail8 n := List.take_of_length_le (by simp [tail8])
/-- a word under way -/
def wpart (p : List Int) (a : Nat) : Nat → Int
  | 0 => 0
  | j + 1 => wpart p a j * 256 + p.getD (a + j) 0
theorem wpart_bd {p : List Int} (hp : isB p) (a j : Nat) : 0 ≤ wpart p a j ∧ wpart p a j < 256 ^ j := by
  induction j with
  | zero => exact ⟨Int.le_refl 0, by simp [wpart]⟩
  | succ j ih =>
    have := hp.getD (a + j)
    rw [wpart, Int.pow_succ]
    omega
theorem wpart_bd3 {p : List Int} (hp : isB p) (a : Nat) {j : Nat} (hj : j < 4) : 0 ≤ wpart p a j ∧ wpart p a j ≤ 16777215 := by
  have h := wpart_bd hp a j
  rcases (show j = 0 ∨ j = 1 ∨ j = 2 ∨ j = 3 by omega) with rfl | rfl | rfl | rfl <;> simp only [Int.reducePow] at h <;> omega
theorem getD_part (p : List Int) (a n j : Nat) (hj : j < n) : ((p.drop a).take n).getD j 0 = p.getD (a + j) 0 := by
  rw [List.getD_eq_getElem?_getD, List.getElem?_take_of_lt hj, List.getElem?_drop, List.getD_eq_getElem?_getD]
theorem wpart_word (p : List Int) (k i : Nat) (hi : i < 16) : wpart p (64 * k + 4 * i) 4 = wordAt ((p.drop (64 * k)).take 64) i := by
  unfold wordAt
  rw [getD_part _ _ _ _ (by omega), getD_part _ _ _ _ (by omega), getD_part _ _ _ _ (by omega), getD_part _ _ _ _ (by omega)]
  simp only [wpart, Nat.add_zero, Int.zero_mul, Int.zero_add, Nat.add_assoc]
theorem words_snoc (b : List Int) (i : Nat) (hi : i < 16) : (words b).take (i + 1) = (words b).take i ++ [wordAt b i] := by
  have h : (words b)[i]? = some (wordAt b i) := by rw [words, List.getElem?_map, List.getElem?_range hi]; rfl
  rw [List.take_add_one, h]; rfl
theorem words_all (b : List Int) : (words b).take 16 = words b := List.take_of_length_le (by simp [words])
/-- the eight words, further by one, so many of them -/
def sh (L : List Int) (m : Nat) : List Int := L.take (8 - m) ++ (L.drop (7 - m)).take m
theorem sh_set (V : V) (m : Nat) (hm : m < 7) : (sh (vs V) m).set (7 - m) ((vs V).getD (6 - m) 0) = sh (vs V) (m + 1) := by
  rcases (show m = 0 ∨ m = 1 ∨ m = 2 ∨ m = 3 ∨ m = 4 ∨ m = 5 ∨ m = 6 by omega) with rfl | rfl | rfl | rfl | rfl | rfl | rfl <;> rfl
theorem sh_get (V : V) (m : Nat) (hm : m < 7) : (sh (vs V) m).getD (6 - m) 0 = (vs V).getD (6 - m) 0 := by
  rcases (show m = 0 ∨ m = 1 ∨ m = 2 ∨ m = 3 ∨ m = 4 ∨ m = 5 ∨ m = 6 by omega) with rfl | rfl | rfl | rfl | rfl | rfl | rfl <;> rfl
theorem sh_zero (V : V) : sh (vs V) 0 = vs V := rfl
theorem sh_end (V : V) : sh (vs V) 7 = [V.a, V.a, V.b, V.c, V.d, V.e, V.f, V.g] := rfl
theorem sh_len (V : V) (m : Nat) (hm : m ≤ 7) : (sh (vs V) m).length = 8 := by
  rcases (show m = 0 ∨ m = 1 ∨ m = 2 ∨ m = 3 ∨ m = 4 ∨ m = 5 ∨ m = 6 ∨ m = 7 by omega) with rfl | rfl | rfl | rfl | rfl | rfl | rfl | rfl <;> rfl
/-- the first bits of a digest, one by one -/
def bitOf (s : List Int) (i : Nat) : Int := s.getD (i / 8) 0 / 2 ^ (7 - i % 8) % 2
def bitsUp (s : List Int) : Nat → Int
  | 0 => 0
  | n + 1 => bitsUp s n * 2 + bitOf s n
theorem bitsUp_eq {s : List Int} (hs : isB s) : ∀ n, n ≤ 32 → bitsUp s n = wordAt s 0 / 2 ^ (32 - n) := by
  have h0 := hs.getD 0
  have h1 := hs.getD 1
  have h2 := hs.getD 2
  have h3 := hs.getD 3
  unfold wordAt
  simp only [Nat.mul_zero, Nat.zero_add]
  intro n
  induction n with
  | zero => intro _; simp only [bitsUp]; generalize s.getD 0 0 = x0 at *; generalize s.getD 1 0 = x1 at *; generalize s.getD 2 0 = x2 at *; generalize s.getD 3 0 = x3 at *; omega
  | succ n ih =>
    intro hn
    rw [bitsUp, ih (by omega), bitOf]
    have hn' : n < 32 := by omega
    clear ih
    rcases (show n = 0 ∨ n = 1 ∨ n = 2 ∨ n = 3 ∨ n = 4 ∨ n = 5 ∨ n = 6 ∨ n = 7 ∨ n = 8 ∨ n = 9 ∨ n = 10 ∨ n = 11 ∨ n = 12 ∨ n = 13 ∨ n = 14 ∨ n = 15 ∨ n = 16 ∨ n = 17 ∨ n = 18 ∨ n = 19 ∨ n = 20 ∨ n = 21 ∨ n = 22 ∨ n = 23 ∨ n = 24 ∨ n = 25 ∨ n = 26 ∨ n = 27 ∨ n = 28 ∨ n = 29 ∨ n = 30 ∨ n = 31 by omega) with rfl | rfl | rfl | rfl | rfl | rfl | rfl | rfl | rfl | rfl | rfl | rfl | rfl | rfl | rfl | rfl | rfl | rfl | rfl | rfl | rfl | rfl | rfl | rfl | rfl | rfl | rfl | rfl | rfl | rfl | rfl | rfl
    all_goals
      simp only [Nat.reduceDiv, Nat.reduceMod, Nat.reduceSub, Nat.reduceAdd, Int.reducePow]
      generalize s.getD 0 0 = x0 at *
      generalize s.getD 1 0 = x1 at *
      generalize s.getD 2 0 = x2 at *
      generalize s.getD 3 0 = x3 at *
      omega
end Sha
end Go.Proofs.YtpidpbjbgjkaaaaDoor
