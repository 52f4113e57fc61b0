/- Cookies over numbers. No program in sight. -/
import Derived.Test.YtpidpbjbgjkaaaaDoorMacPlain
namespace Go.Proofs.YtpidpbjbgjkaaaaDoor
open Go.RowKit
set_option linter.unusedVariables false
namespace Cook
structure Tup where
  proto : Int
  src : Int
  sport : Int
  dst : Int
  dport : Int
def Tup.wf (t : Tup) : Prop := (0 ≤ t.src ∧ t.src ≤ 4294967295) ∧ (0 ≤ t.dst ∧ t.dst ≤ 4294967295)
def Tup.right (t : Tup) : Bool := decide (0 ≤ t.proto ∧ t.proto ≤ 255 ∧ 0 ≤ t.sport ∧ t.sport ≤ 65535 ∧ 0 ≤ t.dport ∧ t.dport ≤ 65535)
def h2 (n : Int) : List Int := [n / 256 % 256, n % 256]
def w4 (n : Int) : List Int := [n / 16777216 % 256, n / 65536 % 256, n / 256 % 256, n % 256]
def text (t : Tup) (sq ep pl : Int) : List Int := [t.proto % 256] ++ w4 t.src ++ h2 t.sport ++ w4 t.dst ++ h2 t.dport ++ w4 sq ++ w4 (ep % 4294967296) ++ [pl % 256]
theorem text_len (t : Tup) (sq ep pl : Int) : (text t sq ep pl).length = 22 := rfl
theorem w4_isB (n : Int) : isB (w4 n) := by
  intro x hx
  simp only [w4, List.mem_cons, List.not_mem_nil, or_false] at hx
  omega
theorem h2_isB (n : Int) : isB (h2 n) := by
  intro x hx
  simp only [h2, List.mem_cons, List.not_mem_nil, or_false] at hx
  omega
theorem b1_isB (n : Int) : isB [n % 256] := by
  intro x hx
  simp only [List.mem_cons, List.not_mem_nil, or_false] at hx
  omega
theorem text_isB (t : Tup) (sq ep pl : Int) : isB (text t sq ep pl) :=
  Mac.isB_app (Mac.isB_app (Mac.isB_app (Mac.isB_app (Mac.isB_app (Mac.isB_app (Mac.isB_app (b1_isB _) (w4_isB _)) (h2_isB _)) (w4_isB _)) (h2_isB _)) (w4_isB _)) (w4_isB _)) (b1_isB _)
/-- one cookie -/
def one (key : List Int) (t : Tup) (sq ep pl : Int) : Int := (ep % 32 * 8 + pl) * 16777216 + Mac.bits key (text t sq ep pl) 24
theorem bits24 (key b : List Int) : 0 ≤ Mac.bits key b 24 ∧ Mac.bits key b 24 ≤ 16777215 := by
  unfold Mac.bits
  rw [if_neg (by omega)]
  have := Sha.wordAt_bd (Mac.sum_isB key b) 0
  show 0 ≤ _ / 2 ^ 8 ∧ _ / 2 ^ 8 ≤ _
  omega
theorem one_parts (key : List Int) (t : Tup) (sq ep : Int) {pl : Int} (h0 : 0 ≤ pl) (h1 : pl ≤ 7) : 0 ≤ one key t sq ep pl ∧ one key t sq ep pl ≤ 4294967295 ∧ one key t sq ep pl / 16777216 % 8 = pl ∧ one key t sq ep pl / 134217728 = ep % 32 ∧ one key t sq ep pl % 16777216 = Mac.bits key (text t sq ep pl) 24 := by
  have h := bits24 key (text t sq ep pl)
  unfold one
  omega
def sizes : List Int := [536, 1200, 1220, 1300, 1400, 1440, 1452, 1460]
def sizeAt (i : Nat) : Int := sizes.getD i 0
def place (mss : Int) : Nat := if 1460 ≤ mss then 7 else if 1452 ≤ mss then 6 else if 1440 ≤ mss then 5 else if 1400 ≤ mss then 4 else if 1300 ≤ mss then 3 else if 1220 ≤ mss then 2 else if 1200 ≤ mss then 1 else 0
theorem place_le (mss : Int) : place mss ≤ 7 := by unfold place; (repeat' split) <;> omega
theorem place_of {mss : Int} {i : Nat} (hi : i ≤ 7) (h0 : sizeAt i ≤ mss ∨ i = 0) (h1 : ∀ j, i < j → j ≤ 7 → mss < sizeAt j) : place mss = i := by
  have e : ∀ j : Nat, j ≤ 7 → sizeAt j = [536, 1200, 1220, 1300, 1400, 1440, 1452, 1460].getD j 0 := fun j _ => rfl
  rcases (show i = 0 ∨ i = 1 ∨ i = 2 ∨ i = 3 ∨ i = 4 ∨ i = 5 ∨ i = 6 ∨ i = 7 by omega) with rfl | rfl | rfl | rfl | rfl | rfl | rfl | rfl
  · have a1 : mss < 1200 := h1 1 (by omega) (by omega)
    unfold place
    rw [if_neg (by omega), if_neg (by omega), if_neg (by omega), if_neg (by omega), if_neg (by omega), if_neg (by omega), if_neg (by omega)]
  · have a0 : 1200 ≤ mss := by rcases h0 with h | h; exact h; omega
    have a1 : mss < 1220 := h1 2 (by omega) (by omega)
    unfold place
    rw [if_neg (by omega), if_neg (by omega), if_neg (by omega), if_neg (by omega), if_neg (by omega), if_neg (by omega), if_pos (by omega)]
  · have a0 : 1220 ≤ mss := by rcases h0 with h | h; exact h; omega
    have a1 : mss < 1300 := h1 3 (by omega) (by omega)
    unfold place
    rw [if_neg (by omega), if_neg (by omega), if_neg (by omega), if_neg (by omega), if_neg (by omega), if_pos (by omega)]
  · have a0 : 1300 ≤ mss := by rcases h0 with h | h; exact h; omega
    have a1 : mss < 1400 := h1 4 (by omega) (by omega)
    unfold place
    rw [if_neg (by omega), if_neg (by omega), if_neg (by omega), if_neg (by omega), if_pos (by omega)]
  · have a0 : 1400 ≤ mss := by rcases h0 with h | h; exact h; omega
    have a1 : mss < 1440 := h1 5 (by omega) (by omega)
    unfold place
    rw [if_neg (by omega), if_neg (by omega), if_neg (by omega), if_pos (by omega)]
  · have a0 : 1440 ≤ mss := by rcases h0 with h | h; exact h; omega
    have a1 : mss < 1452 := h1 6 (by omega) (by omega)
    unfold place
    rw [if_neg (by omega), if_neg (by omega), if_pos (by omega)]
  · have a0 : 1452 ≤ mss := by rcases h0 with h | h; exact h; omega
    have a1 : mss < 1460 := h1 7 (by omega) (by omega)
    unfold place
    rw [if_neg (by omega), if_pos (by omega)]
  · have a0 : 1460 ≤ mss := by rcases h0 with h | h; exact h; omega
    unfold place
    rw [if_pos (by omega)]
theorem place_size {i : Nat} (hi : i ≤ 7) : place (sizeAt i) = i := by
  rcases (show i = 0 ∨ i = 1 ∨ i = 2 ∨ i = 3 ∨ i = 4 ∨ i = 5 ∨ i = 6 ∨ i = 7 by omega) with rfl | rfl | rfl | rfl | rfl | rfl | rfl | rfl <;> rfl
theorem size_le (mss : Int) : sizeAt (place mss) ≤ mss ∨ place mss = 0 := by
  unfold place
  (repeat' split) <;> first | (left; assumption) | (right; rfl)
def may (t : Tup) (ep : Int) : Bool := t.right && decide (0 ≤ ep ∧ ep ≤ 2147483647)
def hit (ls : List (List Int)) (t : Tup) (sq e pl c : Int) : Bool := ls.any fun k => one k t sq e pl == c
def checkB (ls : List (List Int)) (t : Tup) (sq ep c : Int) : Bool :=
  may t ep && decide (ls.length ≤ 2) && ((decide (ep % 32 = c / 134217728) && hit ls t sq ep (c / 16777216 % 8) c) || (decide (1 ≤ ep ∧ (ep - 1) % 32 = c / 134217728) && hit ls t sq (ep - 1) (c / 16777216 % 8) c))
def checkN (ls : List (List Int)) (t : Tup) (sq ep c : Int) : Int := if checkB ls t sq ep c then sizeAt (c / 16777216 % 8).toNat else 0
theorem hit_parts {ls : List (List Int)} {t : Tup} {sq e pl c : Int} (h0 : 0 ≤ pl) (h1 : pl ≤ 7) (h : hit ls t sq e pl c = true) : c / 16777216 % 8 = pl ∧ e % 32 = c / 134217728 := by
  unfold hit at h
  rw [List.any_eq_true] at h
  obtain ⟨k, hk, he⟩ := h
  have he : one k t sq e pl = c := by simpa using he
  have hp := one_parts k t sq e h0 h1
  rw [he] at hp
  exact ⟨hp.2.2.1, hp.2.2.2.1.symm⟩
end Cook
end Go.Proofs.YtpidpbjbgjkaaaaDoor
