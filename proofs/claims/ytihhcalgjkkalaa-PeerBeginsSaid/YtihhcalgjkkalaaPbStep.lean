/- What happens between two, over contents and over numbers: the map. -/
import Derived.Test.YtihhcalgjkkalaaPbMem
namespace Go.Proofs.Ytihhcalgjkkalaa
open Go.RowKit
set_option linter.unusedVariables false
namespace Pb
theorem f18_2 : Go.bits .and .i64 18 2 ≠ 0 := by decide
theorem f2_2 : Go.bits .and .i64 2 2 ≠ 0 := by decide
theorem z32 : (0 : Int) ≤ 0 ∧ (0 : Int) ≤ 4294967295 := by decide
/-- what both hold out of the numbers -/
def ctOf (x : Cc) (s : Sy) : Ct := ⟨pe0 x s.p, pe1 x s.q, s.A.map (sg0 x), s.B.map (sg1 x)⟩
theorem toList_map {α β : Type} (f : α → β) (o : Option α) : (o.map f).toList = o.toList.map f := by cases o <;> rfl
theorem sayK_ct {x : Cc} (hx : x.ok) {s : Sy} (h : s.ok x.cf) (k : Bool) : sayK k x.m (ctOf x s) = ctOf x (sayS x.cf k s) := by
  cases k
  · unfold sayK sayS ctOf
    simp only [Bool.false_eq_true, if_false]
    rw [sayC0 hx h.inv]
    simp [opt, toList_map]
  · unfold sayK sayS ctOf
    simp only [if_true]
    rw [sayC1 hx h.inv]
    simp [opt, toList_map]
theorem againK_ct (x : Cc) (s : Sy) (k : Bool) : againK k (ctOf x s) = ctOf x (againS k s) := by
  cases k
  · unfold againK againS ctOf
    simp only [Bool.false_eq_true, if_false]
    rw [againC0]
  · unfold againK againS ctOf
    simp only [if_true]
    rw [againC1]
theorem loseK_ct (x : Cc) (s : Sy) (k : Bool) (i : Nat) : loseK k i (ctOf x s) = ctOf x (loseS k i s) := by
  cases k <;> simp [loseK, loseS, ctOf, erase_map]
theorem twiceK_ct (x : Cc) (s : Sy) (k : Bool) (i : Nat) : twiceK k i (ctOf x s) = ctOf x (twiceS k i s) := by
  cases k <;> simp [twiceK, twiceS, ctOf, opt, toList_map]
theorem comeK_ct {x : Cc} (hx : x.ok) {s : Sy} (h : s.ok x.cf) (k : Bool) (i : Nat) : comeK k i (ctOf x s) = ctOf x (comeS k i s) := by
  cases k
  · unfold comeK comeS
    simp only [Bool.false_eq_true, if_false]
    cases ht : s.A[i]? with
    | none => simp [ctOf, ht]
    | some t =>
      have e := hearC1 hx h.inv (h.a t (List.mem_of_getElem? ht))
      simp [ctOf, ht, e, opt, toList_map, erase_map]
  · unfold comeK comeS
    simp only [if_true]
    cases ht : s.B[i]? with
    | none => simp [ctOf, ht]
    | some t =>
      have e := hearC0 hx h.inv (h.b t (List.mem_of_getElem? ht))
      simp [ctOf, ht, e, opt, toList_map, erase_map]
theorem takes0 {x : Cc} (hx : x.ok) {p q : Sd} {t : Sg} (h : Inv x.cf p q) (ht : Ok1 x.cf q t) : Takes (pe0 x p) (sg1 x t) := by
  rcases h.a with ⟨a1, a2, a3, a4⟩ | ⟨a1, a2, a3, a4, a5⟩
  · rcases ht with ⟨t1, t2, t3, t4, t6⟩ | ⟨t1, t2, t3, t4, t5⟩
    · have e1 : sg1 x t = ⟨80, 5000, x.f1, off x.f0 1, 18, x.w1, []⟩ := by unfold sg1; rw [if_pos t1]
      rw [e1]
      exact .inr (.inl ⟨by simp [pe0, a1], f18_18, (step_first hx.f0a hx.f0b 1).symm⟩)
    · have := h.ba t2
      omega
  · refine .inr (.inr (.inr ⟨by simp [pe0, a1], ?_⟩))
    rcases ht with ⟨t1, t2, t3, t4, t6⟩ | ⟨t1, t2, t3, t4, t5⟩
    · refine .inl ?_
      unfold sg1 fl_
      rw [if_pos t1]
      exact f18_2
    · obtain ⟨b1, b2⟩ := body1 (x := x) t1 t3 t4
      refine .inr ?_
      unfold fl_
      rw [b2]
      split <;> decide
theorem takes1 {x : Cc} (hx : x.ok) {p q : Sd} {t : Sg} (h : Inv x.cf p q) (ht : Ok0 x.cf p t) : Takes (pe1 x q) (sg0 x t) := by
  rcases h.b with ⟨a1, a2, a3, a4⟩ | ⟨a1, a2, a3, a4⟩ | ⟨a1, a2, a3, a4, a5⟩
  · have e : (pe1 x q).st = 1 := by unfold pe1; rw [if_pos a1]
    rcases ht with ⟨t1, t2, t3, t4⟩ | ⟨t1, t2, t3, t4, t5⟩
    · have e1 : sg0 x t = ⟨5000, 80, x.f0, 0, 2, x.w0, []⟩ := by unfold sg0; rw [if_pos t1]
      rw [e1]
      exact .inl ⟨e, f2_18⟩
    · have := h.ab t2
      omega
  · have e : (pe1 x q).st = 3 := by unfold pe1; rw [if_neg (by omega), a1]; rfl
    have hfi : (pe1 x q).fi = x.f1 := by unfold pe1; rw [if_neg (by omega)]
    refine .inr (.inr (.inl ⟨e, ?_⟩))
    rcases ht with ⟨t1, t2, t3, t4⟩ | ⟨t1, t2, t3, t4, t5⟩
    · refine .inl ?_
      unfold sg0 fl_
      rw [if_pos t1]
      exact f2_2
    · have hp0 : p.got = 0 := by
        by_cases hz : p.got = 0
        · exact hz
        · exact absurd (h.g hz) (by omega)
      have hg0 : t.g = 0 := by omega
      obtain ⟨b1, b2⟩ := body0 (x := x) t1 t3 t4
      have ek : (sg0 x t).ak = off x.f1 1 := by unfold sg0; rw [if_neg (by omega)]; simp [hg0]
      refine .inr ⟨?_, ?_⟩
      · unfold fl_
        rw [b2]
        split <;> decide
      · rw [ek, hfi]
        exact (step_first hx.f1a hx.f1b 1).symm
  · have e : (pe1 x q).st = 4 := by unfold pe1; rw [if_neg (by omega), a1]; rfl
    refine .inr (.inr (.inr ⟨e, ?_⟩))
    rcases ht with ⟨t1, t2, t3, t4⟩ | ⟨t1, t2, t3, t4, t5⟩
    · refine .inl ?_
      unfold sg0 fl_
      rw [if_pos t1]
      exact f2_2
    · obtain ⟨b1, b2⟩ := body0 (x := x) t1 t3 t4
      refine .inr ?_
      unfold fl_
      rw [b2]
      split <;> decide
theorem in0 {x : Cc} (hx : x.ok) (p : Sd) : In32 (pe0 x p) := by
  refine ⟨⟨hx.f0a, hx.f0b⟩, off_range _ _, off_range _ _, ?_⟩
  show 0 ≤ (if p.st = 2 then 0 else off x.f1 (1 + p.got)) ∧ (if p.st = 2 then 0 else off x.f1 (1 + p.got)) ≤ 4294967295
  split
  · omega
  · exact off_range _ _
theorem in1 {x : Cc} (hx : x.ok) (q : Sd) : In32 (pe1 x q) := by
  unfold pe1
  split
  · exact ⟨⟨hx.f1a, hx.f1b⟩, z32, z32, z32⟩
  · exact ⟨⟨hx.f1a, hx.f1b⟩, off_range _ _, off_range _ _, off_range _ _⟩
def wayS (k : Bool) (s : Sy) : List Sg := if k then s.B else s.A
/-- what happens, over numbers -/
def doS (c : Cf) (kd : Nat) (k : Bool) (a : Nat) (s : Sy) : Sy :=
  if kd % 5 = 0 then sayS c k s
  else if kd % 5 = 1 then againS k s
  else if (wayS k s).length = 0 then s
  else if kd % 5 = 4 then twiceS k (a % (wayS k s).length) s
  else if kd % 5 = 3 then loseS k (a % (wayS k s).length) s
  else comeS k (a % (wayS k s).length) s
theorem doS_ok {c : Cf} {kd : Nat} {k : Bool} {a : Nat} {s : Sy} (h : s.ok c) : (doS c kd k a s).ok c := by
  unfold doS
  split
  · exact sayS_ok h
  split
  · exact againS_ok h
  split
  · exact h
  split
  · exact twiceS_ok h
  split
  · exact loseS_ok h
  · exact comeS_ok h
theorem doS_W {c : Cf} {kd : Nat} {k : Bool} {a : Nat} {s : Sy} (h : s.ok c) : W (doS c kd k a s) ≤ W s + 3 := by
  unfold doS
  split
  · exact sayS_W c k s
  split
  · rw [againS_W]; omega
  split
  · omega
  split
  · exact twiceS_W k _ s
  split
  · have := loseS_W k (a % (wayS k s).length) s; omega
  · have := comeS_W' (k := k) (i := a % (wayS k s).length) h; omega
theorem len_W (s : Sy) : s.A.length ≤ W s ∧ s.B.length ≤ W s := by
  have h : ∀ l : List Sg, l.length ≤ wts l := by
    intro l
    induction l with
    | nil => exact Nat.le_refl _
    | cons t l ih =>
      have := wt_pos t
      simp only [wts, List.map_cons, List.sum_cons, List.length_cons] at ih ⊢
      omega
  have h1 := h s.A
  have h2 := h s.B
  unfold W
  omega
end Pb
end Go.Proofs.Ytihhcalgjkkalaa
