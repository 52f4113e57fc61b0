/- Shifts of segments over numbers. No program in sight. -/
import Derived.Test.YtklefgcackchiaaOwn
namespace Go.Proofs.Ytklefgcackchiaa
open Go.RowKit
set_option linter.unusedVariables false
namespace Prox
def w4 (n : Int) : List Int := [n / 16777216 % 256, n / 65536 % 256, n / 256 % 256, n % 256]
def word (a b c d : Int) : Int := a * 16777216 + b * 65536 + c * 256 + d
/-- all words of four bytes further on -/
def sh (m : Int) : List Int → List Int
  | a :: b :: c :: d :: t => w4 ((word a b c d + m) % 4294967296) ++ sh m t
  | l => l
/-- the first word alone -/
def sh1 (m : Int) : List Int → List Int
  | a :: b :: c :: d :: t => w4 ((word a b c d + m) % 4294967296) ++ t
  | l => l
theorem sh1_len (m : Int) : ∀ l, (sh1 m l).length = l.length
  | [] => rfl
  | [_] => rfl
  | [_, _] => rfl
  | [_, _, _] => rfl
  | _ :: _ :: _ :: _ :: t => rfl
theorem sh_len (m : Int) : ∀ l, (sh m l).length = l.length
  | [] => rfl
  | [_] => rfl
  | [_, _] => rfl
  | [_, _, _] => rfl
  | a :: b :: c :: d :: t => by simp [sh, w4, sh_len m t]
theorem w4_isB (n : Int) : isB (w4 n) := by
  intro x hx
  simp only [w4, List.mem_cons, List.not_mem_nil, or_false] at hx
  omega
theorem isB_cons {a : Int} {l : List Int} (h : isB (a :: l)) : (0 ≤ a ∧ a ≤ 255) ∧ isB l := ⟨h a (by simp), fun x hx => h x (by simp [hx])⟩
theorem isB_app {a b : List Int} (ha : isB a) (hb : isB b) : isB (a ++ b) := by
  intro x hx
  rcases List.mem_append.1 hx with h | h
  · exact ha x h
  · exact hb x h
theorem isB_take {l : List Int} (h : isB l) (k : Nat) : isB (l.take k) := fun x hx => h x (List.mem_of_mem_take hx)
theorem isB_drop {l : List Int} (h : isB l) (k : Nat) : isB (l.drop k) := fun x hx => h x (List.mem_of_mem_drop hx)
theorem sh1_isB (m : Int) : ∀ l, isB l → isB (sh1 m l)
  | [], h => h
  | [_], h => h
  | [_, _], h => h
  | [_, _, _], h => h
  | a :: b :: c :: d :: t, h => isB_app (w4_isB _) (fun x hx => h x (by simp [hx]))
theorem sh_isB (m : Int) : ∀ l, isB l → isB (sh m l)
  | [], h => h
  | [_], h => h
  | [_, _], h => h
  | [_, _, _], h => h
  | a :: b :: c :: d :: t, h => isB_app (w4_isB _) (sh_isB m t (fun x hx => h x (by simp [hx])))
theorem w4_word {a b c d : Int} (ha : 0 ≤ a ∧ a ≤ 255) (hb : 0 ≤ b ∧ b ≤ 255) (hc : 0 ≤ c ∧ c ≤ 255) (hd : 0 ≤ d ∧ d ≤ 255) : w4 (word a b c d % 4294967296) = [a, b, c, d] := by
  unfold w4 word
  simp only [List.cons.injEq, and_true]
  omega
theorem word_w4 (n : Int) : word (n / 16777216 % 256) (n / 65536 % 256) (n / 256 % 256) (n % 256) = n % 4294967296 := by
  unfold word
  omega
/-- nothing further is nothing -/
theorem sh_zero : ∀ l, isB l → sh 0 l = l
  | [], _ => rfl
  | [_], _ => rfl
  | [_, _], _ => rfl
  | [_, _, _], _ => rfl
  | a :: b :: c :: d :: t, h => by
    have ha := isB_cons h
    have hb := isB_cons ha.2
    have hc := isB_cons hb.2
    have hd := isB_cons hc.2
    simp only [sh, Int.add_zero]
    rw [w4_word ha.1 hb.1 hc.1 hd.1, sh_zero t hd.2]
    rfl
/-- one behind the other is both together -/
theorem sh_sh (m k : Int) : ∀ l, sh k (sh m l) = sh ((m + k) % 4294967296) l
  | [] => rfl
  | [_] => rfl
  | [_, _] => rfl
  | [_, _, _] => rfl
  | a :: b :: c :: d :: t => by
    simp only [sh, w4, List.cons_append, List.nil_append]
    rw [word_w4, sh_sh m k t]
    congr 1
    · omega
    congr 1
    · omega
    congr 1
    · omega
    congr 1
    · omega
theorem sh_mod (m : Int) : ∀ l, sh (m % 4294967296) l = sh m l
  | [] => rfl
  | [_] => rfl
  | [_, _] => rfl
  | [_, _, _] => rfl
  | a :: b :: c :: d :: t => by
    simp only [sh]
    rw [sh_mod m t, Int.add_emod_emod]
theorem sh1_app (m : Int) (l : List Int) (hl : 4 ≤ l.length) : sh1 m l = sh m (l.take 4) ++ l.drop 4 := by
  match l, hl with
  | a :: b :: c :: d :: t, _ => simp [sh1, sh, w4]
theorem sh_app (m : Int) : ∀ (k : Nat) (a b : List Int), a.length = 4 * k → sh m (a ++ b) = sh m a ++ sh m b
  | 0, a, b, h => by
    obtain rfl : a = [] := List.eq_nil_of_length_eq_zero (by omega)
    rfl
  | k + 1, a, b, h => by
    match a, h with
    | x :: y :: z :: u :: t, h =>
      simp only [List.cons_append, sh, List.append_assoc]
      rw [sh_app m k t b (by simp at h; omega)]
/-- the round at place 4 k -/
theorem sh_round (m : Int) (l : List Int) (k : Nat) (h : 4 * k + 4 ≤ l.length) : sh m (l.take (4 * k)) ++ sh1 m (l.drop (4 * k)) = sh m (l.take (4 * (k + 1))) ++ l.drop (4 * (k + 1)) := by
  have h1 : l.take (4 * (k + 1)) = l.take (4 * k) ++ (l.drop (4 * k)).take 4 := by rw [show 4 * (k + 1) = 4 * k + 4 by omega, List.take_add]
  rw [h1, sh_app m k _ _ (by rw [List.length_take]; omega), sh1_app m _ (by rw [List.length_drop]; omega), List.append_assoc, List.drop_drop, show 4 * (k + 1) = 4 * k + 4 by omega]
abbrev O := Int × List Int
/-- an option on the way to the server -/
def there (sq st : Int) (o : O) : O := if o.1 = 5 ∧ o.2.length % 8 = 0 ∧ o.2.length ≤ 32 then (o.1, sh sq o.2) else if o.1 = 8 ∧ o.2.length = 8 then (o.1, o.2.take 4 ++ sh st (o.2.drop 4)) else o
/-- an option on the way to the client; st: what is added -/
def back (st : Int) (o : O) : O := if o.1 = 8 ∧ o.2.length = 8 then (o.1, sh st (o.2.take 4) ++ o.2.drop 4) else o
theorem there_len (sq st : Int) (o : O) : (there sq st o).2.length = o.2.length ∧ (there sq st o).1 = o.1 := by
  unfold there
  split
  · exact ⟨sh_len _ _, rfl⟩
  · split
    · exact ⟨by simp [sh_len]; omega, rfl⟩
    · exact ⟨rfl, rfl⟩
theorem back_len (st : Int) (o : O) : (back st o).2.length = o.2.length ∧ (back st o).1 = o.1 := by
  unfold back
  split
  · exact ⟨by simp [sh_len]; omega, rfl⟩
  · exact ⟨rfl, rfl⟩
theorem there_isB (sq st : Int) (o : O) (h : isB o.2) : isB (there sq st o).2 := by
  unfold there
  split
  · exact sh_isB _ _ h
  · split
    · exact isB_app (isB_take h 4) (sh_isB _ _ (isB_drop h 4))
    · exact h
theorem back_isB (st : Int) (o : O) (h : isB o.2) : isB (back st o).2 := by
  unfold back
  split
  · exact isB_app (sh_isB _ _ (isB_take h 4)) (isB_drop h 4)
  · exact h
theorem there_zero (o : O) (h : isB o.2) : there 0 0 o = o := by
  obtain ⟨k, l⟩ := o
  unfold there
  simp only at h ⊢
  split
  · rw [sh_zero l h]
  · split
    · rw [sh_zero _ (isB_drop h 4), List.take_append_drop]
    · rfl
theorem back_zero (o : O) (h : isB o.2) : back 0 o = o := by
  obtain ⟨k, l⟩ := o
  unfold back
  simp only at h ⊢
  split
  · rw [sh_zero _ (isB_take h 4), List.take_append_drop]
  · rfl
theorem there_there (a b c d : Int) (o : O) : there c d (there a b o) = there ((a + c) % 4294967296) ((b + d) % 4294967296) o := by
  obtain ⟨k, l⟩ := o
  by_cases h1 : k = 5 ∧ l.length % 8 = 0 ∧ l.length ≤ 32
  · have e : ∀ x y, there x y (k, l) = (k, sh x l) := fun x y => by unfold there; rw [if_pos h1]
    rw [e, e]
    unfold there
    rw [if_pos (by simp only [sh_len]; exact h1)]
    simp only [sh_sh]
  · by_cases h2 : k = 8 ∧ l.length = 8
    · have e : ∀ x y, there x y (k, l) = (k, l.take 4 ++ sh y (l.drop 4)) := fun x y => by unfold there; rw [if_neg h1, if_pos h2]
      rw [e, e]
      unfold there
      have hl : (l.take 4 ++ sh b (l.drop 4)).length = 8 := by simp [sh_len]; omega
      rw [if_neg (by simp only; omega), if_pos ⟨h2.1, hl⟩]
      have t4 : (l.take 4).length = 4 := by rw [List.length_take]; omega
      rw [List.take_left' t4, List.drop_left' t4, sh_sh]
    · have e : ∀ x y, there x y (k, l) = (k, l) := fun x y => by unfold there; rw [if_neg h1, if_neg h2]
      rw [e, e, e]
theorem back_back (b d : Int) (o : O) : back d (back b o) = back ((b + d) % 4294967296) o := by
  obtain ⟨k, l⟩ := o
  by_cases h2 : k = 8 ∧ l.length = 8
  · have e : ∀ y, back y (k, l) = (k, sh y (l.take 4) ++ l.drop 4) := fun y => by unfold back; rw [if_pos h2]
    rw [e, e]
    unfold back
    have t4 : (l.take 4).length = 4 := by rw [List.length_take]; omega
    have s4 : (sh b (l.take 4)).length = 4 := by rw [sh_len]; exact t4
    have hl : (sh b (l.take 4) ++ l.drop 4).length = 8 := by simp [sh_len]; omega
    rw [if_pos ⟨h2.1, hl⟩, List.take_left' s4, List.drop_left' s4, sh_sh]
  · have e : ∀ y, back y (k, l) = (k, l) := fun y => by unfold back; rw [if_neg h2]
    rw [e, e, e]
theorem there_mod (a b : Int) (o : O) : there (a % 4294967296) (b % 4294967296) o = there a b o := by
  unfold there; rw [sh_mod, sh_mod]
theorem back_mod (b : Int) (o : O) : back (b % 4294967296) o = back b o := by
  unfold back; rw [sh_mod]
end Prox
end Go.Proofs.Ytklefgcackchiaa
