/- Routes: what package route computes, over numbers. No program in sight. -/
import Derived.Test.YtdocojhjknhjnaaRulesPlain
namespace Go.Proofs.Ytdocojhjknhjnaa
open Go.RowKit
set_option linter.unusedVariables false
namespace Route
structure R where
  net : Int
  bits : Int
  zone : Int
  mtu : Int
deriving Inhabited, DecidableEq
def R.cells (r : R) : List Value := [.int .u32 r.net, .int .i64 r.bits, .int .i64 r.zone, .int .i64 r.mtu]
def R.wf (r : R) : Prop := 0 ≤ r.net ∧ r.net ≤ 4294967295
def mayB (r : R) : Bool := Rules.withinB r.bits 0 32 && decide (r.net % 2 ^ (32 - r.bits.toNat) = 0) && Rules.withinB r.zone 0 7 && Rules.withinB r.mtu 68 65535
/-- the same net as another one's -/
def sameB (r x : R) : Bool := x.net == r.net && x.bits == r.bits
def stepB (l : List R) (i : Nat) : Bool := mayB l[i]! && !((l.take i).any (sameB l[i]!))
def rightB (l : List R) : Bool := decide (l.length ≤ 64) && (List.range l.length).all (stepB l)
/-- the longest of the first k routes whose net has the address: its place, or -1 -/
def best (l : List R) (a : Int) : Nat → Int
  | 0 => -1
  | k + 1 => if Net.inB a l[k]!.net l[k]!.bits = true ∧ (best l a k < 0 ∨ l[(best l a k).toNat]!.bits < l[k]!.bits) then k else best l a k
/-- which of the first k routes ends at depth d on the way x -/
def ends (l : List R) (d : Nat) (x : Int) : Nat → Int
  | 0 => -1
  | k + 1 => if l[k]!.bits = d ∧ l[k]!.net / 2 ^ (32 - d) = x then k else ends l d x k
/-- what the search says that has gone d steps down -/
def scan (l : List R) (a : Int) (n : Nat) : Nat → Int
  | 0 => -1
  | d + 1 => if 0 ≤ ends l d (a / 2 ^ (32 - d)) n then ends l d (a / 2 ^ (32 - d)) n else scan l a n d
theorem inB_iff {a n b : Int} : Net.inB a n b = true ↔ 0 ≤ b ∧ b ≤ 32 ∧ a / 2 ^ (32 - b.toNat) = n / 2 ^ (32 - b.toNat) := by
  unfold Net.inB
  simp
theorem best_spec (l : List R) (a : Int) : ∀ k, (best l a k = -1 ∧ ∀ j, j < k → Net.inB a l[j]!.net l[j]!.bits = false) ∨
    (∃ i : Nat, best l a k = i ∧ i < k ∧ Net.inB a l[i]!.net l[i]!.bits = true ∧ (∀ j, j < k → Net.inB a l[j]!.net l[j]!.bits = true → l[j]!.bits ≤ l[i]!.bits) ∧ ∀ j, j < i → Net.inB a l[j]!.net l[j]!.bits = true → l[j]!.bits < l[i]!.bits) := by
  intro k
  induction k with
  | zero => exact .inl ⟨rfl, fun j hj => absurd hj (Nat.not_lt_zero _)⟩
  | succ k ih =>
    by_cases h : Net.inB a l[k]!.net l[k]!.bits = true ∧ (best l a k < 0 ∨ l[(best l a k).toNat]!.bits < l[k]!.bits)
    · right
      refine ⟨k, by simp only [best]; rw [if_pos h], by omega, h.1, ?_⟩
      rcases ih with ⟨h1, h2⟩ | ⟨i, h1, h2, h3, h4, h5⟩
      · refine ⟨fun j hj hin => ?_, fun j hj hin => ?_⟩
        · by_cases e : j = k
          · subst e; exact Int.le_refl _
          · rw [h2 j (by omega)] at hin; cases hin
        · rw [h2 j hj] at hin; cases hin
      · have hb : l[i]!.bits < l[k]!.bits := by
          rcases h.2 with h' | h'
          · omega
          · rwa [h1, Int.toNat_natCast] at h'
        refine ⟨fun j hj hin => ?_, fun j hj hin => ?_⟩
        · by_cases e : j = k
          · subst e; exact Int.le_refl _
          · have := h4 j (by omega) hin; omega
        · have := h4 j hj hin; omega
    · have e : best l a (k + 1) = best l a k := by simp only [best]; rw [if_neg h]
      rw [e]
      rcases ih with ⟨h1, h2⟩ | ⟨i, h1, h2, h3, h4, h5⟩
      · refine .inl ⟨h1, fun j hj => ?_⟩
        by_cases e : j = k
        · subst e
          cases hin : Net.inB a l[j]!.net l[j]!.bits
          · rfl
          · exact absurd ⟨hin, .inl (by omega)⟩ h
        · exact h2 j (by omega)
      · refine .inr ⟨i, h1, by omega, h3, fun j hj hin => ?_, h5⟩
        by_cases e : j = k
        · subst e
          rcases Int.lt_or_le l[i]!.bits l[j]!.bits with h' | h'
          · exact absurd ⟨hin, .inr (by rw [h1, Int.toNat_natCast]; exact h')⟩ h
          · exact h'
        · exact h4 j (by omega) hin
theorem ends_spec (l : List R) (d : Nat) (x : Int) : ∀ k, (ends l d x k = -1 ∧ ∀ j, j < k → ¬ (l[j]!.bits = d ∧ l[j]!.net / 2 ^ (32 - d) = x)) ∨
    (∃ i : Nat, ends l d x k = i ∧ i < k ∧ l[i]!.bits = d ∧ l[i]!.net / 2 ^ (32 - d) = x) := by
  intro k
  induction k with
  | zero => exact .inl ⟨rfl, fun j hj => absurd hj (Nat.not_lt_zero _)⟩
  | succ k ih =>
    by_cases h : l[k]!.bits = d ∧ l[k]!.net / 2 ^ (32 - d) = x
    · exact .inr ⟨k, by simp only [ends]; rw [if_pos h], by omega, h.1, h.2⟩
    · have e : ends l d x (k + 1) = ends l d x k := by simp only [ends]; rw [if_neg h]
      rw [e]
      rcases ih with ⟨h1, h2⟩ | ⟨i, h1, h2, h3, h4⟩
      · refine .inl ⟨h1, fun j hj => ?_⟩
        by_cases e : j = k
        · subst e; exact h
        · exact h2 j (by omega)
      · exact .inr ⟨i, h1, by omega, h3, h4⟩
theorem scan_spec (l : List R) (a : Int) (n : Nat) : ∀ d, (scan l a n d = -1 ∧ ∀ e, e < d → ∀ j, j < n → ¬ (l[j]!.bits = e ∧ l[j]!.net / 2 ^ (32 - e) = a / 2 ^ (32 - e))) ∨
    (∃ i e : Nat, scan l a n d = i ∧ i < n ∧ e < d ∧ l[i]!.bits = e ∧ l[i]!.net / 2 ^ (32 - e) = a / 2 ^ (32 - e) ∧ ∀ e', e < e' → e' < d → ∀ j, j < n → ¬ (l[j]!.bits = e' ∧ l[j]!.net / 2 ^ (32 - e') = a / 2 ^ (32 - e'))) := by
  intro d
  induction d with
  | zero => exact .inl ⟨rfl, fun j hj => absurd hj (Nat.not_lt_zero _)⟩
  | succ d ih =>
    rcases ends_spec l d (a / 2 ^ (32 - d)) n with ⟨h1, h2⟩ | ⟨i, h1, h2, h3, h4⟩
    · have e : scan l a n (d + 1) = scan l a n d := by simp only [scan]; rw [h1]; rfl
      rw [e]
      rcases ih with ⟨g1, g2⟩ | ⟨i, e', g1, g2, g3, g4, g5, g6⟩
      · refine .inl ⟨g1, fun e he => ?_⟩
        by_cases hd : e = d
        · subst hd; exact h2
        · exact g2 e (by omega)
      · refine .inr ⟨i, e', g1, g2, by omega, g4, g5, fun e he1 he2 => ?_⟩
        by_cases hd : e = d
        · subst hd; exact h2
        · exact g6 e he1 (by omega)
    · refine .inr ⟨i, d, ?_, h2, by omega, h3, h4, fun e h1 h2 => by omega⟩
      simp only [scan]
      rw [h1, if_pos (by omega)]
theorem right_step {l : List R} (h : rightB l = true) {i : Nat} (hi : i < l.length) : mayB l[i]! = true ∧ ∀ j, j < i → sameB l[i]! l[j]! = false := by
  unfold rightB at h
  rw [Bool.and_eq_true, List.all_eq_true] at h
  have h1 := h.2 i (by simpa using hi)
  unfold stepB at h1
  rw [Bool.and_eq_true, Bool.not_eq_true', List.any_eq_false] at h1
  refine ⟨h1.1, fun j hj => ?_⟩
  have h2 := h1.2 l[j]! (by
    rw [getElem!_pos l j (by omega)]
    exact List.mem_take_iff_getElem.2 ⟨j, by omega, rfl⟩)
  simpa using h2
theorem may_iff {r : R} : mayB r = true ↔ (0 ≤ r.bits ∧ r.bits ≤ 32) ∧ r.net % 2 ^ (32 - r.bits.toNat) = 0 ∧ (0 ≤ r.zone ∧ r.zone ≤ 7) ∧ (68 ≤ r.mtu ∧ r.mtu ≤ 65535) := by
  unfold mayB Rules.withinB
  simp [and_assoc]
/-- two routes of right ones that have an address and as many bits are one -/
theorem right_one {l : List R} (h : rightB l = true) {a : Int} {i j : Nat} (hi : i < l.length) (hj : j < l.length) (h1 : Net.inB a l[i]!.net l[i]!.bits = true) (h2 : Net.inB a l[j]!.net l[j]!.bits = true) (hb : l[i]!.bits = l[j]!.bits) : i = j := by
  have key : ∀ i j, i < l.length → j < l.length → Net.inB a l[i]!.net l[i]!.bits = true → Net.inB a l[j]!.net l[j]!.bits = true → l[i]!.bits = l[j]!.bits → ¬ j < i := by
    intro i j hi hj h1 h2 hb hlt
    obtain ⟨m1, hs⟩ := right_step h hi
    obtain ⟨m2, _⟩ := right_step h hj
    have n1 := (may_iff.1 m1).2.1
    have n2 := (may_iff.1 m2).2.1
    have d1 := (inB_iff.1 h1).2.2
    have d2 := (inB_iff.1 h2).2.2
    rw [hb] at d1 n1
    have e : l[i]!.net = l[j]!.net := by
      have x1 := Int.mul_ediv_add_emod l[i]!.net (2 ^ (32 - l[j]!.bits.toNat))
      have x2 := Int.mul_ediv_add_emod l[j]!.net (2 ^ (32 - l[j]!.bits.toNat))
      rw [← x1, ← x2, n1, n2, ← d1, d2]
    have := hs j hlt
    unfold sameB at this
    rw [e, hb] at this
    simp at this
  have k1 := key i j hi hj h1 h2 hb
  have k2 := key j i hj hi h2 h1 hb.symm
  omega
theorem scan_best {l : List R} (h : rightB l = true) (a : Int) : scan l a l.length 33 = best l a l.length := by
  have hm : ∀ j, j < l.length → 0 ≤ l[j]!.bits ∧ l[j]!.bits ≤ 32 := fun j hj => (may_iff.1 (right_step h hj).1).1
  have conv : ∀ j, j < l.length → ∀ e : Nat, l[j]!.bits = e → (l[j]!.net / 2 ^ (32 - e) = a / 2 ^ (32 - e) ↔ Net.inB a l[j]!.net l[j]!.bits = true) := by
    intro j hj e he
    rw [inB_iff]
    have := hm j hj
    constructor
    · intro h; refine ⟨this.1, this.2, ?_⟩; rw [he, Int.toNat_natCast]; exact h.symm
    · intro h; have := h.2.2; rw [he, Int.toNat_natCast] at this; exact this.symm
  rcases scan_spec l a l.length 33 with ⟨h1, h2⟩ | ⟨i, e, h1, h2, h3, h4, h5, h6⟩ <;> rcases best_spec l a l.length with ⟨g1, g2⟩ | ⟨j, g1, g2, g3, g4, _⟩
  · rw [h1, g1]
  · exfalso
    have hj := hm j g2
    refine h2 l[j]!.bits.toNat (by omega) j g2 ⟨by omega, ?_⟩
    exact (conv j g2 _ (by omega)).2 g3
  · exfalso
    have := g2 i h2
    rw [(conv i h2 e h4).1 h5] at this
    cases this
  · have hi3 := (conv i h2 e h4).1 h5
    have hle := g4 i h2 hi3
    have hj := hm j g2
    have hge : ¬ l[i]!.bits < l[j]!.bits := by
      intro hlt
      refine h6 l[j]!.bits.toNat (by omega) (by omega) j g2 ⟨by omega, ?_⟩
      exact (conv j g2 _ (by omega)).2 g3
    have := right_one h h2 g2 hi3 g3 (by omega)
    rw [h1, g1, this]
end Route
end Go.Proofs.Ytdocojhjknhjnaa
