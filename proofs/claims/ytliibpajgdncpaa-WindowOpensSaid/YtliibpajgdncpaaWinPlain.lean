/- Windows over numbers: what package window computes, and the laws of it. No program in sight. -/
import Derived.Test.YtliibpajgdncpaaStateStep
namespace Go.Proofs.Ytliibpajgdncpaa
open Go.RowKit
set_option linter.unusedVariables false
namespace Win
/-- a side: its end, how far it may reach, what of it is acknowledged, its window, its scale, was it heard -/
structure S where
  e : Int
  m : Int
  u : Int
  w : Int
  s : Int
  h : Bool
deriving DecidableEq, Inhabited
def S.cells (x : S) : List Value := [.int .u32 x.e, .int .u32 x.m, .int .u32 x.u, .int .i64 x.w, .int .i64 x.s, .bool x.h]
structure S.ok (x : S) : Prop where
  e : 0 ≤ x.e ∧ x.e ≤ 4294967295
  m : 0 ≤ x.m ∧ x.m ≤ 4294967295
  u : 0 ≤ x.u ∧ x.u ≤ 4294967295
  w : -9223372036854775808 ≤ x.w ∧ x.w ≤ 9223372036854775807
  s : -9223372036854775808 ≤ x.s ∧ x.s ≤ 9223372036854775807
def zero : S := ⟨0, 0, 0, 0, 0, false⟩
def right1 (x : S) : Bool := if x.h = true then decide (1 ≤ x.w) && decide (x.w ≤ 1073741824) && decide (-1 ≤ x.s) && decide (x.s ≤ 14) else decide (x = zero)
def right (x y : S) : Bool := right1 x && right1 y && (!x.h || !y.h || (decide (0 ≤ x.s) && decide (0 ≤ y.s)))
/-- what is said of a segment: its first number, the number behind it, what it acknowledges, the window that it tells, whether it has Syn, Ack -/
structure G where
  sq : Int
  en : Int
  ak : Int
  wi : Int
  syn : Bool
  ack : Bool
/-- a window as it counts -/
def win (s wi : Int) (syn : Bool) : Int := max (if syn = true then wi else wi * 2 ^ (max s 0).toNat) 1
def first (o : S) (g : G) (sc : Int) : S × S :=
  if (o.h && (decide (sc < 0) || decide (o.s < 0))) = true then (⟨g.en, g.en, g.sq, g.wi, 0, true⟩, { o with s := 0 }) else (⟨g.en, g.en, g.sq, g.wi, sc, true⟩, o)
def wrong (a o : S) (g : G) : Int :=
  if 0 < Seq.dist a.m g.en then 1
  else if Seq.dist (Seq.step a.e (-o.w)) g.sq < 0 then 2
  else if g.ack = false then 0
  else if 0 < Seq.dist o.e g.ak then 3
  else if Seq.dist (Seq.step o.e (-66000 - a.w)) g.ak < 0 then 4
  else 0
def after (a o : S) (g : G) : S × S :=
  ({ a with e := Seq.later a.e g.en, w := max a.w g.wi }, if (g.ack && o.h) = true then { o with m := Seq.later o.m (Seq.step g.ak g.wi), u := Seq.later o.u g.ak } else o)
def go (a o : S) (g : G) (sc : Int) : (S × S) × Int :=
  if a.h = false then (if g.syn = false then ((a, o), 2) else (after (first o g sc).1 (first o g sc).2 g, 0))
  else if (o.h && wrong a o g != 0) = true then ((a, o), wrong a o g)
  else (after a o g, 0)
def pass (a o : S) (sq ak wi size sc : Int) (syn ack : Bool) : (S × S) × Int :=
  if (!right a o || (decide (wi < 0) || decide (65535 < wi))) = true then ((a, o), 2)
  else go a o ⟨sq, Seq.step sq size, ak, win a.s wi syn, syn, ack⟩ sc
theorem later_up (a b : Int) : 0 ≤ Seq.dist a (Seq.later a b) := by
  unfold Seq.later Seq.ahead
  by_cases h : 0 < Seq.dist a b
  · rw [if_pos (by simpa using h)]; omega
  · rw [if_neg (by simpa using h)]; unfold Seq.dist wrap64 wrap32; omega
theorem dist_self (a : Int) : Seq.dist a a = 0 := by unfold Seq.dist wrap64 wrap32; omega
theorem later_twice (a b : Int) : Seq.later (Seq.later a b) b = Seq.later a b := by
  unfold Seq.later Seq.ahead
  by_cases h : 0 < Seq.dist a b
  · have e : (if decide (0 < Seq.dist a b) = true then b else a) = b := if_pos (decide_eq_true h)
    rw [e]
    split <;> rfl
  · have e : (if decide (0 < Seq.dist a b) = true then b else a) = a := if_neg (by simpa using h)
    rw [e, e]
theorem win_bd {s wi : Int} {syn : Bool} (h0 : 0 ≤ wi) (h1 : wi ≤ 65535) (hs : s ≤ 14) : 1 ≤ win s wi syn ∧ win s wi syn ≤ 1073741824 := by
  have hp : wi * 2 ^ (max s 0).toNat ≤ 1073741824 := by
    obtain ⟨k, hk⟩ : ∃ k, (max s 0).toNat = k := ⟨_, rfl⟩
    have : k ≤ 14 := by omega
    rw [hk]
    have h2 : (2 : Int) ^ k ≤ 2 ^ 14 := by exact_mod_cast Nat.pow_le_pow_right (by decide) this
    calc wi * 2 ^ k ≤ wi * 2 ^ 14 := Int.mul_le_mul_of_nonneg_left h2 h0
      _ ≤ 1073741824 := by omega
  unfold win
  split <;> omega
theorem right1_h {x : S} (h : right1 x = true) (hh : x.h = true) : 1 ≤ x.w ∧ x.w ≤ 1073741824 ∧ -1 ≤ x.s ∧ x.s ≤ 14 := by
  unfold right1 at h
  rw [if_pos hh] at h
  simp only [Bool.and_eq_true, decide_eq_true_eq] at h
  exact ⟨h.1.1.1, h.1.1.2, h.1.2, h.2⟩
theorem right1_mk {x : S} (hh : x.h = true) (h : 1 ≤ x.w ∧ x.w ≤ 1073741824 ∧ -1 ≤ x.s ∧ x.s ≤ 14) : right1 x = true := by
  unfold right1
  rw [if_pos hh]
  simp only [Bool.and_eq_true, decide_eq_true_eq]
  exact ⟨⟨⟨h.1, h.2.1⟩, h.2.2.1⟩, h.2.2.2⟩
theorem right1_no {x : S} (h : right1 x = true) (hh : x.h = false) : x = zero := by
  unfold right1 at h
  rw [if_neg (by simp [hh])] at h
  simpa using h
theorem right_parts {x y : S} (h : right x y = true) : right1 x = true ∧ right1 y = true ∧ (x.h = true → y.h = true → 0 ≤ x.s ∧ 0 ≤ y.s) := by
  unfold right at h
  simp only [Bool.and_eq_true, Bool.or_eq_true, Bool.not_eq_true', decide_eq_true_eq] at h
  refine ⟨h.1.1, h.1.2, fun hx hy => ?_⟩
  rcases h.2 with h2 | h2
  · rw [hx, hy] at h2; simp at h2
  · exact h2
theorem right_mk {x y : S} (hx : right1 x = true) (hy : right1 y = true) (h : x.h = true → y.h = true → 0 ≤ x.s ∧ 0 ≤ y.s) : right x y = true := by
  unfold right
  rw [hx, hy]
  cases ex : x.h
  · simp
  · cases ey : y.h
    · simp
    · simp [h ex ey]
theorem right_comm (x y : S) : right x y = right y x := by
  unfold right
  cases right1 x <;> cases right1 y <;> cases x.h <;> cases y.h <;> simp [Bool.and_comm]
/-- what a segment turned for the better -/
structure Rose (a a' : S) : Prop where
  e : 0 ≤ Seq.dist a.e a'.e
  m : 0 ≤ Seq.dist a.m a'.m
  u : 0 ≤ Seq.dist a.u a'.u
  w : a.w ≤ a'.w
  h : a'.h = true
theorem after_own (a o : S) (g : G) (hh : a.h = true) : Rose a (after a o g).1 :=
  ⟨later_up _ _, by show 0 ≤ Seq.dist a.m a.m; exact Int.le_of_eq (dist_self _).symm, by show 0 ≤ Seq.dist a.u a.u; exact Int.le_of_eq (dist_self _).symm, by show a.w ≤ max a.w g.wi; omega, hh⟩
theorem rose_refl (a : S) (hh : a.h = true) : Rose a a := ⟨by exact Int.le_of_eq (dist_self _).symm, by exact Int.le_of_eq (dist_self _).symm, by exact Int.le_of_eq (dist_self _).symm, by omega, hh⟩
theorem after_other (a o : S) (g : G) (hh : o.h = true) : Rose o (after a o g).2 := by
  unfold after
  simp only
  split
  · exact ⟨by show 0 ≤ Seq.dist o.e o.e; exact Int.le_of_eq (dist_self _).symm, later_up _ _, later_up _ _, by show o.w ≤ o.w; omega, hh⟩
  · exact rose_refl o hh
theorem after_h1 (a o : S) (g : G) : (after a o g).1.h = a.h := rfl
theorem after_s1 (a o : S) (g : G) : (after a o g).1.s = a.s := rfl
theorem after_2 (a o : S) (g : G) : (after a o g).2.h = o.h ∧ (after a o g).2.s = o.s ∧ (after a o g).2.w = o.w ∧ (after a o g).2.e = o.e := by
  unfold after
  simp only
  split <;> exact ⟨rfl, rfl, rfl, rfl⟩
theorem after_right {a o : S} {g : G} (ha : right1 a = true) (hh : a.h = true) (ho : right1 o = true) (hs : o.h = true → 0 ≤ a.s ∧ 0 ≤ o.s) (g0 : 1 ≤ g.wi) (g1 : g.wi ≤ 1073741824) : right (after a o g).1 (after a o g).2 = true := by
  obtain ⟨w0, w1, s0, s1⟩ := right1_h ha hh
  obtain ⟨e1, e2, e3, e4⟩ := after_2 a o g
  refine right_mk (right1_mk hh ⟨?_, ?_, s0, s1⟩) ?_ ?_
  · show 1 ≤ max a.w g.wi; omega
  · show max a.w g.wi ≤ 1073741824; omega
  · cases hoh : o.h
    · have : (after a o g).2 = o := by unfold after; simp [hoh]
      rw [this]; exact ho
    · obtain ⟨v0, v1, t0, t1⟩ := right1_h ho hoh
      exact right1_mk (by rw [e1, hoh]) (by rw [e2, e3]; exact ⟨v0, v1, t0, t1⟩)
  · intro _ h2
    rw [e1] at h2
    rw [e2]
    exact hs h2
structure Rises (a o : S) (sq size : Int) (n : S × S) : Prop where
  right : right n.1 n.2 = true
  h : n.1.h = true
  own : a.h = true → Rose a n.1
  other : o.h = true → Rose o n.2
  both : a.h = true → o.h = true → Seq.dist a.m (Seq.step sq size) ≤ 0 ∧ n.2.e = o.e ∧ n.1.s = a.s
theorem wrong_zero {a o : S} {g : G} (h : wrong a o g = 0) : Seq.dist a.m g.en ≤ 0 := by
  unfold wrong at h
  split at h
  · omega
  · omega
theorem rises {a o : S} {sq ak wi size sc : Int} {syn ack : Bool} (hsc : -1 ≤ sc) (hsc1 : sc ≤ 14) (hr : Win.right a o = true) (hb : (pass a o sq ak wi size sc syn ack).2 = 0) : Rises a o sq size (pass a o sq ak wi size sc syn ack).1 := by
  obtain ⟨ra, ro, hs⟩ := right_parts hr
  unfold pass at hb ⊢
  split at hb
  · simp at hb
  rename_i hc
  rw [if_neg hc]
  simp only [hr, Bool.not_true, Bool.false_or, Bool.or_eq_true, decide_eq_true_eq, not_or] at hc
  have w0 : 0 ≤ wi := by omega
  have w1 : wi ≤ 65535 := by omega
  have hsa : a.s ≤ 14 := by
    cases hah : a.h
    · rw [right1_no ra hah]; decide
    · exact (right1_h ra hah).2.2.2
  obtain ⟨g0, g1⟩ := win_bd (syn := syn) w0 w1 hsa
  generalize hg : (⟨sq, Seq.step sq size, ak, win a.s wi syn, syn, ack⟩ : G) = g at hb ⊢
  have e1 : g.wi = win a.s wi syn := by rw [← hg]
  have e2 : g.en = Seq.step sq size := by rw [← hg]
  rw [← e1] at g0 g1
  unfold go at hb ⊢
  cases hah : a.h
  · rw [hah] at hb
    simp only [if_true] at hb ⊢
    split at hb
    · simp at hb
    rename_i hsyn
    rw [if_neg hsyn]
    have hf : (first o g sc).1.h = true ∧ right1 (first o g sc).1 = true ∧ right1 (first o g sc).2 = true ∧ (first o g sc).2.h = o.h ∧ (o.h = true → 0 ≤ (first o g sc).1.s ∧ 0 ≤ (first o g sc).2.s) ∧ (o.h = true → Rose o (first o g sc).2) ∧ (first o g sc).2.m = o.m ∧ (first o g sc).2.u = o.u := by
      unfold first
      split
      · rename_i hq
        simp only [Bool.and_eq_true] at hq
        refine ⟨rfl, right1_mk rfl ⟨g0, g1, by show (-1 : Int) ≤ 0; decide, by show (0 : Int) ≤ 14; decide⟩, ?_, rfl, fun _ => ⟨by show (0 : Int) ≤ 0; decide, by show (0 : Int) ≤ 0; decide⟩, fun hoh => ?_, ?_⟩
        · obtain ⟨v0, v1, t0, t1⟩ := right1_h ro hq.1
          exact right1_mk hq.1 ⟨v0, v1, by show (-1 : Int) ≤ 0; decide, by show (0 : Int) ≤ 14; decide⟩
        · exact ⟨by show 0 ≤ Seq.dist o.e o.e; exact Int.le_of_eq (dist_self _).symm, by show 0 ≤ Seq.dist o.m o.m; exact Int.le_of_eq (dist_self _).symm, by show 0 ≤ Seq.dist o.u o.u; exact Int.le_of_eq (dist_self _).symm, by show o.w ≤ o.w; omega, hoh⟩
        · exact ⟨rfl, rfl⟩
      · rename_i hq
        refine ⟨rfl, right1_mk rfl ⟨g0, g1, hsc, hsc1⟩, ro, rfl, fun hoh => ?_, fun hoh => rose_refl o hoh, rfl, rfl⟩
        rw [hoh] at hq
        simp only [Bool.true_and, Bool.or_eq_true, decide_eq_true_eq, not_or] at hq
        exact ⟨by show 0 ≤ sc; omega, by show 0 ≤ o.s; omega⟩
    obtain ⟨f1, f2, f3, f4, f5, f6, f7, f8⟩ := hf
    generalize first o g sc = pq at f1 f2 f3 f4 f5 f6 f7 f8
    obtain ⟨p, q⟩ := pq
    simp only at f1 f2 f3 f4 f5 f6 f7 f8
    refine ⟨after_right f2 f1 f3 (fun h => f5 (by rw [← f4]; exact h)) g0 g1, f1, fun h => (by rw [hah] at h; cases h), fun hoh => ?_, fun h => (by rw [hah] at h; cases h)⟩
    have r1 := f6 hoh
    have r2 := after_other p q g (by rw [f4]; exact hoh)
    obtain ⟨k1, k2, k3, k4⟩ := after_2 p q g
    refine ⟨by rw [k4]; exact r1.e, ?_, ?_, by rw [k3]; exact r1.w, by rw [k1, f4]; exact hoh⟩
    · rw [← f7]; exact r2.m
    · rw [← f8]; exact r2.u
  · rw [hah] at hb
    simp only [Bool.true_eq_false, if_false] at hb ⊢
    split at hb
    · rename_i hq
      simp only [Bool.and_eq_true, bne_iff_ne] at hq
      exact absurd hb hq.2
    rename_i hq
    rw [if_neg hq]
    refine ⟨after_right ra hah ro (fun h => hs hah h) g0 g1, hah, fun h => after_own a o g h, fun h => after_other a o g h, fun _ hoh => ?_⟩
    simp only [hoh, Bool.true_and, bne_iff_ne, ne_eq, Decidable.not_not] at hq
    rw [← e2]
    exact ⟨wrong_zero hq, (after_2 a o g).2.2.2, rfl⟩
end Win
end Go.Proofs.Ytliibpajgdncpaa
