/- Windows over numbers: a segment that comes twice; the first three segments. No program in sight. -/
import Derived.Test.YtliibpajgdncpaaWinPlain
namespace Go.Proofs.Ytliibpajgdncpaa
open Go.RowKit
set_option linter.unusedVariables false
namespace Win
theorem step_step (a x y : Int) : Seq.step (Seq.step a x) y = Seq.step a (x + y) := by unfold Seq.step; omega
theorem dist_on {a n : Int} (h0 : -2147483648 ≤ n) (h1 : n < 2147483648) : Seq.dist a (Seq.step a n) = n := by unfold Seq.dist Seq.step wrap64 wrap32; omega
theorem dist_off {a n : Int} (h0 : -2147483648 < n) (h1 : n ≤ 2147483648) : Seq.dist (Seq.step a n) a = -n := by unfold Seq.dist Seq.step wrap64 wrap32; omega
theorem later_on {a n : Int} (h0 : 1 ≤ n) (h1 : n < 2147483648) : Seq.later a (Seq.step a n) = Seq.step a n := by
  unfold Seq.later Seq.ahead
  rw [dist_on (by omega) h1, if_pos (by simp; omega)]
theorem later_self (a : Int) : Seq.later a a = a := by
  unfold Seq.later; split <;> rfl
theorem late_more {o k a b : Int} (ha : 1 ≤ a) (hb : b ≤ 1073741824) (hab : a ≤ b) (h1 : ¬ 0 < Seq.dist o k) (h2 : ¬ Seq.dist (Seq.step o (-66000 - a)) k < 0) : ¬ Seq.dist (Seq.step o (-66000 - b)) k < 0 := by
  unfold Seq.dist Seq.step wrap64 wrap32 at *; omega
theorem twice {a o : S} {sq ak wi size sc : Int} {syn ack : Bool} (hr : Win.right a o = true) (ha : a.h = true) (ho : o.h = true) (hsc : -1 ≤ sc) (hsc1 : sc ≤ 14) (h0 : 0 ≤ size) (hsz : size ≤ o.w)
    (hb : (pass a o sq ak wi size sc syn ack).2 = 0) : pass (pass a o sq ak wi size sc syn ack).1.1 (pass a o sq ak wi size sc syn ack).1.2 sq ak wi size sc syn ack = ((pass a o sq ak wi size sc syn ack).1, 0) := by
  have R := rises hsc hsc1 hr hb
  obtain ⟨ra, ro, hs⟩ := right_parts hr
  obtain ⟨aw0, aw1, as0, as1⟩ := right1_h ra ha
  obtain ⟨ow0, ow1, os0, os1⟩ := right1_h ro ho
  have hrr := R.right
  clear R
  generalize hq : pass a o sq ak wi size sc syn ack = q at hb hrr ⊢
  unfold pass at hq
  split at hq
  · rw [← hq] at hb; simp at hb
  rename_i hc
  generalize hg : (⟨sq, Seq.step sq size, ak, win a.s wi syn, syn, ack⟩ : G) = g at hq
  have e0 : g.sq = sq := by rw [← hg]
  have e2 : g.en = Seq.step sq size := by rw [← hg]
  unfold go at hq
  rw [ha] at hq
  simp only [Bool.true_eq_false, if_false] at hq
  split at hq
  · rename_i hw
    rw [← hq] at hb
    simp only [ho, Bool.true_and, bne_iff_ne] at hw
    exact absurd hb hw
  rename_i hw
  simp only [ho, Bool.true_and, bne_iff_ne, ne_eq, Decidable.not_not] at hw
  subst hq
  have g1 := win_bd (s := a.s) (syn := syn) (wi := wi) (by simp [hr] at hc; omega) (by simp [hr] at hc; omega) as1
  have gw : g.wi = win a.s wi syn := by rw [← hg]
  rw [← gw] at g1
  obtain ⟨k1, k2, k3, k4⟩ := after_2 a o g
  have hwr : wrong (after a o g).1 (after a o g).2 g = 0 := by
    have a1 : (after a o g).1.e = Seq.later a.e g.en := rfl
    have a2 : (after a o g).1.m = a.m := rfl
    have a3 : (after a o g).1.w = max a.w g.wi := rfl
    unfold wrong at hw ⊢
    rw [a1, a2, a3, k3, k4]
    by_cases c1 : 0 < Seq.dist a.m g.en
    · rw [if_pos c1] at hw; cases hw
    rw [if_neg c1] at hw ⊢
    by_cases c2 : Seq.dist (Seq.step a.e (-o.w)) g.sq < 0
    · rw [if_pos c2] at hw; cases hw
    rw [if_neg c2] at hw
    have c2' : ¬ Seq.dist (Seq.step (Seq.later a.e g.en) (-o.w)) g.sq < 0 := by
      unfold Seq.later
      split
      · rw [e2, e0, step_step, dist_off (by omega) (by omega)]; omega
      · exact c2
    rw [if_neg c2']
    by_cases c3 : g.ack = false
    · rw [if_pos c3]
    rw [if_neg c3] at hw ⊢
    by_cases c4 : 0 < Seq.dist o.e g.ak
    · rw [if_pos c4] at hw; cases hw
    rw [if_neg c4] at hw ⊢
    by_cases c5 : Seq.dist (Seq.step o.e (-66000 - a.w)) g.ak < 0
    · rw [if_pos c5] at hw; cases hw
    rw [if_neg (late_more (a := a.w) aw0 (by omega) (by omega) c4 c5)]
  have haf : after (after a o g).1 (after a o g).2 g = after a o g := by
    have b1 : (after (after a o g).1 (after a o g).2 g).1 = (after a o g).1 := by
      show ({ (after a o g).1 with e := Seq.later (Seq.later a.e g.en) g.en, w := max (max a.w g.wi) g.wi } : S) = _
      rw [later_twice, show max (max a.w g.wi) g.wi = max a.w g.wi by omega]
      rfl
    have b2 : (after (after a o g).1 (after a o g).2 g).2 = (after a o g).2 := by
      have x1 : (after (after a o g).1 (after a o g).2 g).2 = if (g.ack && (after a o g).2.h) = true then { (after a o g).2 with m := Seq.later (after a o g).2.m (Seq.step g.ak g.wi), u := Seq.later (after a o g).2.u g.ak } else (after a o g).2 := rfl
      rw [x1, k1]
      split
      · rename_i hh
        have x2 : (after a o g).2 = { o with m := Seq.later o.m (Seq.step g.ak g.wi), u := Seq.later o.u g.ak } := by
          show (if (g.ack && o.h) = true then _ else _) = _
          rw [if_pos hh]
        rw [x2]
        simp only [later_twice]
      · rfl
    exact Prod.ext b1 b2
  show pass (after a o g).1 (after a o g).2 sq ak wi size sc syn ack = (after a o g, 0)
  unfold pass
  have hrr' : Win.right (after a o g).1 (after a o g).2 = true := hrr
  rw [hr] at hc
  rw [hrr', if_neg hc]
  have s1 : (after a o g).1.s = a.s := rfl
  have h1 : (after a o g).1.h = true := ha
  rw [s1, hg]
  unfold go
  rw [h1, k1, ho, hwr, haf]
  rfl
theorem size_nonneg (n : Nat) (fl : Int) : 0 ≤ State.size n fl := by
  unfold State.size State.bi
  repeat' split
  all_goals omega
theorem wrong_bd (a o : S) (g : G) : 0 ≤ wrong a o g ∧ wrong a o g ≤ 4 := by
  unfold wrong
  repeat' split
  all_goals omega
theorem pass_bad {a o : S} {sq ak wi size sc : Int} {syn ack : Bool} {n : S × S} {bad : Int} (h : pass a o sq ak wi size sc syn ack = (n, bad)) (hb : bad ≠ 0) : n = (a, o) ∧ 1 ≤ bad ∧ bad ≤ 4 := by
  unfold pass at h
  split at h
  · injection h with h1 h2
    exact ⟨h1.symm, by omega, by omega⟩
  unfold go at h
  split at h
  · split at h
    · injection h with h1 h2
      exact ⟨h1.symm, by omega, by omega⟩
    · injection h with h1 h2
      exact absurd h2.symm hb
  · split at h
    · injection h with h1 h2
      have := wrong_bd a o ⟨sq, Seq.step sq size, ak, win a.s wi syn, syn, ack⟩
      exact ⟨h1.symm, by omega, by omega⟩
    · injection h with h1 h2
      exact absurd h2.symm hb
/-- the scale that counts -/
def p2 (sa sb x : Int) : Int := if sb < 0 ∨ sa < 0 then 0 else x
theorem right_one {x : S} (h : right1 x = true) : Win.right zero x = true ∧ Win.right x zero = true := by
  refine ⟨right_mk (by decide) h (fun h => by cases h), right_mk h (by decide) (fun _ h => by cases h)⟩
/-- the first one's first segment -/
theorem open1 {a wi sc : Int} (h0 : 0 ≤ wi) (h1 : wi ≤ 65535) (ak : Int) :
    pass zero zero a ak wi 1 sc true false = ((⟨Seq.step a 1, Seq.step a 1, a, max wi 1, sc, true⟩, zero), 0) := by
  unfold pass
  have hr : Win.right zero zero = true := by decide
  have hz : zero.h = false := rfl
  rw [hr, if_neg (by simp; omega)]
  unfold go
  rw [hz, if_pos rfl, if_neg (by simp)]
  unfold first
  simp only [hz, Bool.false_and, Bool.false_eq_true, if_false]
  unfold after win
  simp only [later_self, if_true, Bool.false_and, Bool.false_eq_true, if_false]
  congr 3
  omega
theorem first_ok {a wi sc : Int} (h0 : 0 ≤ wi) (h1 : wi ≤ 65535) (hsc : -1 ≤ sc) (hsc1 : sc ≤ 14) : right1 ⟨Seq.step a 1, Seq.step a 1, a, max wi 1, sc, true⟩ = true :=
  right1_mk rfl ⟨by show 1 ≤ max wi 1; omega, by show max wi 1 ≤ _; omega, hsc, hsc1⟩
/-- the other one's first segment -/
theorem open2 {a b x y sa sb : Int} (hx0 : 0 ≤ x) (hx1 : x ≤ 65535) (h0 : 0 ≤ y) (h1 : y ≤ 65535) (hsa : -1 ≤ sa) (hsa1 : sa ≤ 14) (hsb : -1 ≤ sb) (hsb1 : sb ≤ 14) :
    pass zero ⟨Seq.step a 1, Seq.step a 1, a, max x 1, sa, true⟩ b (Seq.step a 1) y 1 sb true true =
      ((⟨Seq.step b 1, Seq.step b 1, b, max y 1, p2 sa sb sb, true⟩, ⟨Seq.step a 1, Seq.step a (1 + max y 1), Seq.step a 1, max x 1, p2 sa sb sa, true⟩), 0) := by
  have hw : win zero.s y true = max y 1 := rfl
  have hz : zero.h = false := rfl
  have l1 : Seq.later (Seq.step a 1) (Seq.step (Seq.step a 1) (max y 1)) = Seq.step a (1 + max y 1) := by rw [later_on (by omega) (by omega), step_step]
  have l2 : Seq.later a (Seq.step a 1) = Seq.step a 1 := later_on (by omega) (by omega)
  unfold pass
  rw [(right_one (first_ok hx0 hx1 hsa hsa1)).1, if_neg (by simp; omega), hw]
  unfold go
  rw [hz, if_pos rfl, if_neg (by simp)]
  unfold first p2
  by_cases hq : sb < 0 ∨ sa < 0
  · rw [if_pos (by simpa using hq), if_pos hq, if_pos hq]
    unfold after
    simp only [later_self, l1, l2, Bool.and_self, if_true]
    congr 3
    omega
  · rw [if_neg (by simpa using hq), if_neg hq, if_neg hq]
    unfold after
    simp only [later_self, l1, l2, Bool.and_self, if_true]
    congr 3
    omega
/-- the third one -/
theorem open3 {a b x y p q sc : Int} (hx0 : 0 ≤ x) (hx1 : x ≤ 65535) (hy0 : 0 ≤ y) (hy1 : y ≤ 65535) (hp : 0 ≤ p) (hp1 : p ≤ 14) (hq : 0 ≤ q) (hq1 : q ≤ 14) :
    pass ⟨Seq.step a 1, Seq.step a (1 + max y 1), Seq.step a 1, max x 1, p, true⟩ ⟨Seq.step b 1, Seq.step b 1, b, max y 1, q, true⟩ (Seq.step a 1) (Seq.step b 1) x 0 sc false true =
      ((⟨Seq.step a 1, Seq.step a (1 + max y 1), Seq.step a 1, max (max x 1) (max (x * 2 ^ p.toNat) 1), p, true⟩, ⟨Seq.step b 1, Seq.step b (1 + max (x * 2 ^ p.toNat) 1), Seq.step b 1, max y 1, q, true⟩), 0) := by
  have hw : win p x false = max (x * 2 ^ p.toNat) 1 := by
    unfold win
    rw [if_neg (by simp), show max p 0 = p by omega]
  obtain ⟨g0, g1⟩ := win_bd (s := p) (syn := false) hx0 hx1 hp1
  rw [hw] at g0 g1
  unfold pass
  rw [right_mk (right1_mk rfl ⟨by show 1 ≤ max x 1; omega, by show max x 1 ≤ _; omega, by show -1 ≤ p; omega, hp1⟩) (right1_mk rfl ⟨by show 1 ≤ max y 1; omega, by show max y 1 ≤ _; omega, by show -1 ≤ q; omega, hq1⟩) (fun _ _ => ⟨hp, hq⟩), if_neg (by simp; omega)]
  simp only [hw]
  generalize max (x * 2 ^ p.toNat) 1 = g at g0 g1
  have s0 : Seq.step (Seq.step a 1) 0 = Seq.step a 1 := by rw [step_step]; rfl
  unfold go
  rw [if_neg (by simp)]
  have hwr : wrong ⟨Seq.step a 1, Seq.step a (1 + max y 1), Seq.step a 1, max x 1, p, true⟩ ⟨Seq.step b 1, Seq.step b 1, b, max y 1, q, true⟩ ⟨Seq.step a 1, Seq.step (Seq.step a 1) 0, Seq.step b 1, g, false, true⟩ = 0 := by
    unfold wrong
    simp only [s0]
    rw [if_neg (by rw [← step_step, dist_off (by omega) (by omega)]; omega), if_neg (by rw [dist_off (by omega) (by omega)]; omega), if_neg (by simp), if_neg (by rw [dist_self]; omega), if_neg (by rw [dist_off (by omega) (by omega)]; omega)]
  rw [hwr, if_neg (by simp)]
  unfold after
  simp only [s0, later_self, Bool.and_self, if_true]
  rw [later_on (a := Seq.step b 1) (by omega) (by omega), later_on (a := b) (by omega) (by omega), step_step]
end Win
end Go.Proofs.Ytliibpajgdncpaa
