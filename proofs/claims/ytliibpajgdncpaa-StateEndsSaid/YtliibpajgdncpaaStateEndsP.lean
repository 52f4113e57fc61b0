/- What a connection does by one word, as the law StateEnds asks it. No program in sight. -/
import Derived.Test.YtliibpajgdncpaaStateStepJ
namespace Go.Proofs.Ytliibpajgdncpaa
open Go.RowKit
set_option linter.unusedVariables false
namespace State
def asked : C := ⟨1, false, false, 0, 0, false, false⟩
structure Keeps (c d : C) : Prop where
  s0 : c.f0 = true → d.f0 = true ∧ d.a0 = c.a0 ∧ (c.k0 = true → d.k0 = true)
  s1 : c.f1 = true → d.f1 = true ∧ d.a1 = c.a1 ∧ (c.k1 = true → d.k1 = true)
theorem Keeps.refl (c : C) : Keeps c c := ⟨fun h => ⟨h, rfl, id⟩, fun h => ⟨h, rfl, id⟩⟩
theorem end_keeps {c : C} {w : W} (h0 : sideB c.f0 c.a0 c.k0 = true) (h1 : sideB c.f1 c.a1 c.k1 = true) :
    sideB (endNow c w).f0 (endNow c w).a0 (endNow c w).k0 = true ∧ sideB (endNow c w).f1 (endNow c w).a1 (endNow c w).k1 = true ∧ Keeps c (endNow c w) := by
  obtain ⟨st, f0, f1, a0, a1, k0, k1⟩ := c
  unfold endNow finOf
  by_cases hs : w.side = 0
  · simp only [hs, if_true]
    cases w.fin <;> cases f0
    · exact ⟨h0, h1, .refl _⟩
    · exact ⟨h0, h1, .refl _⟩
    · exact ⟨rfl, h1, ⟨(fun h => by cases h), fun h => ⟨h, rfl, id⟩⟩⟩
    · exact ⟨h0, h1, .refl _⟩
  · simp only [if_neg hs]
    cases w.fin <;> cases f1
    · exact ⟨h0, h1, .refl _⟩
    · exact ⟨h0, h1, .refl _⟩
    · exact ⟨h0, rfl, ⟨fun h => ⟨h, rfl, id⟩, (fun h => by cases h)⟩⟩
    · exact ⟨h0, h1, .refl _⟩
theorem ack_keeps {c : C} {w : W} (h0 : sideB c.f0 c.a0 c.k0 = true) (h1 : sideB c.f1 c.a1 c.k1 = true) :
    sideB (ackNow c w).f0 (ackNow c w).a0 (ackNow c w).k0 = true ∧ sideB (ackNow c w).f1 (ackNow c w).a1 (ackNow c w).k1 = true ∧ Keeps c (ackNow c w) := by
  obtain ⟨st, f0, f1, a0, a1, k0, k1⟩ := c
  unfold ackNow
  by_cases hs : w.side = 0
  · simp only [hs, if_true]
    cases f1
    · exact ⟨h0, h1, .refl _⟩
    · cases decide (0 ≤ Seq.dist a1 w.ackn)
      · exact ⟨h0, h1, .refl _⟩
      · exact ⟨h0, rfl, ⟨fun h => ⟨h, rfl, id⟩, fun h => ⟨h, rfl, fun _ => rfl⟩⟩⟩
  · simp only [if_neg hs]
    cases f0
    · exact ⟨h0, h1, .refl _⟩
    · cases decide (0 ≤ Seq.dist a0 w.ackn)
      · exact ⟨h0, h1, .refl _⟩
      · exact ⟨rfl, h1, ⟨fun h => ⟨h, rfl, fun _ => rfl⟩, fun h => ⟨h, rfl, id⟩⟩⟩
theorem Keeps.trans {a b c : C} (h : Keeps a b) (k : Keeps b c) : Keeps a c :=
  ⟨fun x => ⟨(k.s0 (h.s0 x).1).1, ((k.s0 (h.s0 x).1).2.1).trans (h.s0 x).2.1, fun y => (k.s0 (h.s0 x).1).2.2 ((h.s0 x).2.2 y)⟩,
   fun x => ⟨(k.s1 (h.s1 x).1).1, ((k.s1 (h.s1 x).1).2.1).trans (h.s1 x).2.1, fun y => (k.s1 (h.s1 x).1).2.2 ((h.s1 x).2.2 y)⟩⟩
theorem sides {c : C} (h : rightB c = true) : sideB c.f0 c.a0 c.k0 = true ∧ sideB c.f1 c.a1 c.k1 = true := by
  unfold rightB at h
  rw [Bool.and_eq_true, Bool.and_eq_true] at h
  exact h.1
theorem right_talked {d : C} (h0 : sideB d.f0 d.a0 d.k0 = true) (h1 : sideB d.f1 d.a1 d.k1 = true) :
    rightB { d with st := if acks d = 2 then 6 else 3 + fins d } = true := by
  obtain ⟨st, f0, f1, a0, a1, k0, k1⟩ := d
  unfold rightB
  simp only at h0 h1
  simp only [h0, h1]
  cases f0 <;> cases f1 <;> cases k0 <;> cases k1 <;> simp [sideB, acks, fins, bi] at h0 h1 ⊢
theorem right_any {c : C} (h0 : sideB c.f0 c.a0 c.k0 = true) (h1 : sideB c.f1 c.a1 c.k1 = true) : rightB { c with st := 7 } = true := by
  unfold rightB
  simp only [h0, h1]
  rfl
theorem fins_of {c : C} (h : rightB c = true) (hs : c.st = 0 ∨ c.st = 1 ∨ c.st = 2 ∨ c.st = 3) : fins c = 0 := by
  unfold rightB at h
  rw [Bool.and_eq_true, if_pos hs] at h
  simpa using h.2
theorem right_st1 {c : C} (h : rightB c = true) (hs : c.st = 0 ∨ c.st = 1 ∨ c.st = 2 ∨ c.st = 3) {s : Int} (k : s = 0 ∨ s = 1 ∨ s = 2 ∨ s = 3) : rightB { c with st := s } = true := by
  have hf := fins_of h hs
  obtain ⟨h0, h1⟩ := sides h
  have hf2 : fins { c with st := s } = 0 := hf
  unfold rightB
  rw [if_pos k, hf2]
  simp only [h0, h1]
  rfl
/-- what one word does to a connection that is right -/
inductive Does (c : C) (w : W) : C × Bool → Prop where
  | same (b : Bool) (h : b = true → c.st ≠ 0 ∧ c.st ≠ 6 ∧ c.st ≠ 7 ∧ w.rst = false ∧ (c.st = 1 ∨ c.st = 2)) : Does c w (c, b)
  | broken (h : w.rst = true) (hl : c.st ≠ 0 ∧ c.st ≠ 6 ∧ c.st ≠ 7) : Does c w ({ c with st := 7 }, true)
  | asked (h : c.st ≠ 1) (hs : w.side = 0) (hy : w.syn = true) (hr : w.rst = false) : Does c w (asked, true)
  | heard (h : c.st = 1) (hs : w.side = 1) (hy : w.syn = true) (hr : w.rst = false) : Does c w ({ c with st := 2 }, true)
  | talked (d : C) (hd : Keeps c d) (h0 : sideB d.f0 d.a0 d.k0 = true) (h1 : sideB d.f1 d.a1 d.k1 = true) (hr : w.rst = false) (hy : w.syn = false) (ha : w.ack = true)
      (h : (c.st = 2 ∧ w.side = 0) ∨ (3 ≤ c.st ∧ c.st ≤ 6)) : Does c w ({ d with st := if acks d = 2 then 6 else 3 + fins d }, true)
theorem talk_does {c : C} {w : W} (hc : rightB c = true) (hr : w.rst = false) (h : (c.st = 2 ∧ w.side = 0) ∨ (3 ≤ c.st ∧ c.st ≤ 6)) : Does c w (talk c w) := by
  unfold talk
  obtain ⟨h0, h1⟩ := sides hc
  obtain ⟨e0, e1, ek⟩ := end_keeps (w := w) h0 h1
  obtain ⟨g0, g1, gk⟩ := ack_keeps (w := w) e0 e1
  cases hy : w.syn
  · cases ha : w.ack
    · exact .same false (fun h => by cases h)
    · exact .talked _ (ek.trans gk) g0 g1 hr hy ha h
  · exact .same false (fun h => by cases h)
theorem step_does {c : C} {w : W} (hc : rightB c = true) : Does c w (step c w) := by
  by_cases hs : w.side = 0 ∨ w.side = 1
  · rw [step_good hc hs]
    have hst := right_st hc
    unfold go
    cases hr : w.rst
    · simp only [Bool.false_and, Bool.false_eq_true, if_false]
      by_cases hb : (begins w && (over c || c.st == 0)) = true
      · rw [if_pos hb]
        rw [Bool.and_eq_true] at hb
        obtain ⟨hb, ho⟩ := hb
        unfold begins at hb
        simp only [Bool.and_eq_true, beq_iff_eq] at hb
        unfold over at ho
        refine .asked ?_ hb.1.1.1 hb.1.1.2 hr
        simp only [Bool.or_eq_true, beq_iff_eq] at ho
        omega
      · rw [if_neg hb]
        by_cases h1 : c.st = 1
        · rw [if_pos h1]
          by_cases hq : (w.side == 1 && w.syn && !w.fin) = true
          · rw [if_pos hq]
            simp only [Bool.and_eq_true, beq_iff_eq] at hq
            exact .heard h1 hq.1.1 hq.1.2 hr
          · rw [if_neg hq]
            exact .same _ (fun _ => ⟨by omega, by omega, by omega, hr, .inl h1⟩)
        · rw [if_neg h1]
          by_cases h2 : c.st = 2
          · rw [if_pos h2]
            unfold heard
            by_cases hy : w.syn = true
            · rw [if_pos hy]
              exact .same _ (fun _ => ⟨by omega, by omega, by omega, hr, .inr h2⟩)
            · rw [if_neg hy]
              by_cases ha : (w.ack && w.side == 0) = true
              · rw [if_pos ha]
                simp only [Bool.and_eq_true, beq_iff_eq] at ha
                exact talk_does hc hr (.inl ⟨h2, ha.2⟩)
              · rw [if_neg ha]
                exact .same _ (fun _ => ⟨by omega, by omega, by omega, hr, .inr h2⟩)
          · rw [if_neg h2]
            by_cases h3 : c.st = 3 ∨ c.st = 4 ∨ c.st = 5 ∨ c.st = 6
            · rw [if_pos h3]
              exact talk_does hc hr (.inr (by omega))
            · rw [if_neg h3]
              exact .same false (fun h => by cases h)
    · simp only [Bool.true_and, if_true]
      by_cases ho : (over c || c.st == 0) = true
      · rw [if_pos ho]
        exact .same false (fun h => by cases h)
      · rw [if_neg ho]
        exact .broken hr (by unfold over at ho; simp only [Bool.or_eq_true, beq_iff_eq, not_or] at ho; omega)
  · rw [step_bad (.inr (by omega))]
    exact .same false (fun h => by cases h)
theorem step_side {c : C} {w : W} (h : (step c w).2 = true) : w.side = 0 ∨ w.side = 1 := by
  by_cases hs : w.side = 0 ∨ w.side = 1
  · exact hs
  · rw [step_bad (.inr (by omega))] at h
    cases h
/-- what the law's loop knows -/
structure Inv (c : C) (s0 s1 op : Bool) : Prop where
  right : rightB c = true
  asked : c.st = 1 → s0 = true
  heard : c.st = 2 → s0 = true ∧ s1 = true
  opened : 3 ≤ c.st → c.st ≤ 6 → op = true
def anew (c n : C) (ok : Bool) : Bool := ok && n.st == 1 && c.st != 1
def syn0 (c : C) (w : W) (n : C) (ok s0 : Bool) : Bool := (s0 && !anew c n ok) || (ok && w.syn && !w.rst && w.side == 0)
def syn1 (c : C) (w : W) (n : C) (ok s1 : Bool) : Bool := (s1 && !anew c n ok) || (ok && w.syn && !w.rst && !(w.side == 0))
def opn (c : C) (w : W) (n : C) (ok s0 s1 op : Bool) : Bool := (op && !anew c n ok) || (ok && w.side == 0 && (!w.syn && w.ack && !w.rst) && syn0 c w n ok s0 && syn1 c w n ok s1)
structure Ends (c : C) (w : W) (n : C) (ok : Bool) (s0 s1 op : Bool) : Prop where
  inv : Inv n (syn0 c w n ok s0) (syn1 c w n ok s1) (opn c w n ok s0 s1 op)
  kept : ok = false → n = c
  keeps : n.st ≠ 1 → Keeps c n
  over : 6 ≤ c.st → n.st = c.st ∨ n = State.asked
  side : ok = true → w.side = 0 ∨ w.side = 1
theorem ends_of {c : C} {w : W} {s0 s1 op : Bool} (h : Inv c s0 s1 op) {r : C × Bool} (hd : Does c w r) (hsd : r.2 = true → w.side = 0 ∨ w.side = 1) : Ends c w r.1 r.2 s0 s1 op := by
  have hst := right_st h.right
  obtain ⟨q0, q1⟩ := sides h.right
  cases hd with
  | same b hb =>
    have ha : anew c c b = false := by unfold anew; cases b <;> cases hq : (c.st == 1) <;> simp_all
    refine ⟨⟨h.right, fun e => ?_, fun e => ?_, fun e f => ?_⟩, fun _ => rfl, fun _ => .refl _, fun _ => .inl rfl, hsd⟩
    · unfold syn0; rw [h.asked e, ha]; rfl
    · unfold syn0 syn1; rw [(h.heard e).1, (h.heard e).2, ha]; exact ⟨rfl, rfl⟩
    · unfold opn; rw [h.opened e f, ha]; rfl
  | broken hr hl =>
    refine ⟨⟨right_any q0 q1, fun e => ?_, fun e => ?_, fun e f => ?_⟩, fun e => (by cases e), fun _ => ⟨fun x => ⟨x, rfl, id⟩, fun x => ⟨x, rfl, id⟩⟩, fun e => ?_, hsd⟩
    · simp at e
    · simp at e
    · simp at f
    · omega
  | asked h1 hs hy hr =>
    have ha : anew c State.asked true = true := by unfold anew State.asked; simp [h1]
    refine ⟨⟨by decide, fun e => ?_, fun e => ?_, fun e f => ?_⟩, fun e => (by cases e), fun e => absurd rfl e, fun _ => .inr rfl, hsd⟩
    · unfold syn0; rw [hy, hr, hs]; simp
    · simp [State.asked] at e
    · simp [State.asked] at e
  | heard h1 hs hy hr =>
    have ha : anew c { c with st := 2 } true = false := by unfold anew; simp
    refine ⟨⟨right_st1 h.right (by omega) (by omega), fun e => ?_, fun e => ?_, fun e f => ?_⟩, fun e => (by cases e), fun _ => ⟨fun x => ⟨x, rfl, id⟩, fun x => ⟨x, rfl, id⟩⟩, fun e => ?_, hsd⟩
    · simp at e
    · unfold syn0 syn1; rw [h.asked h1, ha, hy, hr, hs]; exact ⟨rfl, by simp⟩
    · simp at e
    · omega
  | talked d hd h0 h1 hr hy hak hc =>
    have hn : 3 ≤ (if acks d = 2 then 6 else 3 + fins d) := by
      split
      · omega
      · unfold fins bi; cases d.f0 <;> cases d.f1 <;> simp
    have ha : anew c { d with st := if acks d = 2 then 6 else 3 + fins d } true = false := by
      unfold anew
      have : ((if acks d = 2 then 6 else 3 + fins d) == 1) = false := by rw [beq_eq_false_iff_ne]; omega
      simp [this]
    refine ⟨⟨right_talked h0 h1, fun e => ?_, fun e => ?_, fun e f => ?_⟩, fun e => (by cases e), fun _ => ⟨hd.s0, hd.s1⟩, fun e => ?_, hsd⟩
    · simp only at e; omega
    · simp only at e; omega
    · unfold opn
      rcases hc with ⟨e2, es⟩ | ⟨e3, e6⟩
      · unfold syn0 syn1
        rw [ha, hr, hy, hak, es, (h.heard e2).1, (h.heard e2).2]
        simp
      · rw [h.opened e3 e6, ha]; rfl
    · left
      have e6 : c.st = 6 := by omega
      have hk : c.k0 = true ∧ c.k1 = true ∧ c.f0 = true ∧ c.f1 = true := by
        have hr := h.right
        unfold rightB at hr
        rw [e6] at hr
        unfold acks fins bi at hr
        cases hk0 : c.k0 <;> cases hk1 : c.k1 <;> cases hf0 : c.f0 <;> cases hf1 : c.f1 <;> simp_all
      have k0 := (hd.s0 hk.2.2.1).2.2 hk.1
      have k1 := (hd.s1 hk.2.2.2).2.2 hk.2.1
      have : acks d = 2 := by unfold acks; rw [k0, k1]; rfl
      simp only [this, if_true]
      omega
end State
end Go.Proofs.Ytliibpajgdncpaa
