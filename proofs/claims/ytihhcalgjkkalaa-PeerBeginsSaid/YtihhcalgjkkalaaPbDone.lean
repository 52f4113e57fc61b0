/- Two who speak to one another: the other turn, and the rounds (P31.3). No program in sight. -/
import Derived.Test.YtihhcalgjkkalaaPbRound
namespace Go.Proofs.Ytihhcalgjkkalaa
set_option linter.unusedVariables false
namespace Pb
/-- the one who waits: they come to speak, or what it says is acknowledged -/
theorem turn1_on {c : Cf} {s : Sy} (h : s.ok c) (hA : s.A = []) (hB : s.B = []) (hm : 1 ≤ c.m) (hw : 1 ≤ c.w0) (hp4 : s.p.st = 4) :
    (s.q.st = 3 → (turn c true s).q.st = 4) ∧ (s.q.st = 4 → s.q.u ≤ c.L1 → s.q.u < (turn c true s).q.u) := by
  obtain ⟨p, q, A, B⟩ := s
  simp only at hA hB hp4
  subst hA hB
  obtain ⟨a, b, ab, ba, g, pu, qu⟩ := h.inv
  simp only at a b ab ba g pu qu ⊢
  refine ⟨fun h3 => ?_, fun h4 hu => ?_⟩
  · have hp0 : p.got = 0 := by
      by_cases hz : p.got = 0
      · exact hz
      · have := g hz
        omega
    have e1 : again q = q := by unfold again; rw [if_neg (by omega)]
    have e2 : say c true q = (q, some ⟨1, 0, 0, 0⟩) := by unfold say; rw [if_neg (by omega), if_pos h3]
    have e3 : turn c true ⟨p, q, [], []⟩ = drain 400 ⟨p, q, [], [⟨1, 0, 0, 0⟩]⟩ := by
      show drain 400 ⟨p, (say c true (again q)).1, [], [] ++ opt (say c true (again q)).2⟩ = _
      rw [e1, e2]
      rfl
    have e4 : hear p ⟨1, 0, 0, 0⟩ = (p, some (nod p)) := by
      unfold hear
      rw [if_neg (by omega), if_neg (by omega), if_neg (by omega), if_pos hp4, if_neg (by simp)]
    have e5 : hear q (nod p) = (spoke ⟨4, 1, q.v, q.got⟩ (nod p), none) := by
      unfold hear
      rw [if_neg (by omega), if_neg (by omega), if_pos h3, if_pos (show (nod p).kd = 2 from rfl), if_pos (show (nod p).g = 0 from hp0)]
      rfl
    rw [e3, drain_B 399, e4]
    show (drain 399 ⟨p, q, [nod p], []⟩).q.st = 4
    rw [drain_A 398, e5]
    show (drain 398 ⟨p, spoke ⟨4, 1, q.v, q.got⟩ (nod p), [], []⟩).q.st = 4
    rw [drain_nil]
    rfl
  · have b4 : 1 ≤ q.u ∧ q.u ≤ q.v ∧ q.v ≤ c.L1 + 1 ∧ q.got ≤ c.L0 := by rcases b with b | b | b <;> omega
    have e1 : again q = ⟨4, q.u, q.u, q.got⟩ := by unfold again; rw [if_pos h4]
    obtain ⟨n, hn⟩ : ∃ n, n = more c true ⟨4, q.u, q.u, q.got⟩ := ⟨_, rfl⟩
    have hn1 : 1 ≤ n := by
      rw [hn]
      unfold more
      simp only [Cf.L, Cf.ot, if_true]
      omega
    have e2 : say c true ⟨4, q.u, q.u, q.got⟩ = (⟨4, q.u, q.u + n, q.got⟩, some ⟨2, q.u, n, q.got⟩) := by
      unfold say
      rw [if_neg (by simp), if_neg (by simp), if_pos rfl, ← hn, if_neg (by omega)]
    have e3 : turn c true ⟨p, q, [], []⟩ = drain 400 ⟨p, ⟨4, q.u, q.u + n, q.got⟩, [], [⟨2, q.u, n, q.got⟩]⟩ := by
      show drain 400 ⟨p, (say c true (again q)).1, [], [] ++ opt (say c true (again q)).2⟩ = _
      rw [e1, e2]
      rfl
    obtain ⟨p1, hp1, hs, hg⟩ : ∃ p1, hear p ⟨2, q.u, n, q.got⟩ = (p1, some (nod p1)) ∧ p1.st = 4 ∧ q.u + n ≤ p1.got + 1 := by
      unfold hear
      rw [if_neg (by omega), if_neg (by omega), if_neg (by omega), if_pos hp4, if_pos rfl]
      refine ⟨spoke p ⟨2, q.u, n, q.got⟩, ?_, rfl, (up_bounds p ⟨2, q.u, n, q.got⟩).2.2.2.2.2.2.2.2 b4.1 (by simp only; omega)⟩
      unfold speak
      rw [if_neg (by simp only; omega)]
    have e4 : hear ⟨4, q.u, q.u + n, q.got⟩ (nod p1) = (spoke ⟨4, q.u, q.u + n, q.got⟩ (nod p1), none) := by
      unfold hear
      rw [if_neg (by simp), if_neg (by simp), if_neg (by simp), if_pos rfl, if_pos (show (nod p1).kd = 2 from rfl)]
      rfl
    have hub := (up_bounds ⟨4, q.u, q.u + n, q.got⟩ (nod p1)).2.2.2.2.2.2.2.1
    rw [e3, drain_B 399, hp1]
    show q.u < (drain 399 ⟨p1, ⟨4, q.u, q.u + n, q.got⟩, [nod p1], []⟩).q.u
    rw [drain_A 398, e4]
    show q.u < (drain 398 ⟨p1, spoke ⟨4, q.u, q.u + n, q.got⟩ (nod p1), [], []⟩).q.u
    rw [drain_nil]
    show q.u < upU ⟨4, q.u, q.u + n, q.got⟩ (nod p1)
    have : (nod p1).g = p1.got := rfl
    omega
def round (c : Cf) (s : Sy) : Sy := turn c true (turn c false s)
def rank (c : Cf) (s : Sy) : Nat := (if s.q.st = 4 then 0 else 1) + (c.L0 + 1 - s.p.u) + (c.L1 + 1 - s.q.u)
def done (c : Cf) (s : Sy) : Prop := s.p.st = 4 ∧ s.q.st = 4 ∧ s.p.u = c.L0 + 1 ∧ s.q.u = c.L1 + 1
theorem done_iff {c : Cf} {s : Sy} (h : s.ok c) : done c s ↔ rank c s = 0 := by
  unfold done rank
  obtain ⟨a, b, ab, ba, g, pu, qu⟩ := h.inv
  constructor
  · rintro ⟨h1, h2, h3, h4⟩
    rw [if_pos h2]
    omega
  · intro hr
    by_cases h4 : s.q.st = 4
    · rw [if_pos h4] at hr
      have h5 := ba h4
      refine ⟨h5, h4, ?_, ?_⟩
      · rcases a with a | a <;> omega
      · rcases b with b | b | b <;> omega
    · rw [if_neg h4] at hr
      omega
/-- who is done has got all -/
theorem done_all {c : Cf} {s : Sy} (h : s.ok c) (hd : done c s) : s.p.got = c.L1 ∧ s.q.got = c.L0 := by
  obtain ⟨a, b, ab, ba, g, pu, qu⟩ := h.inv
  obtain ⟨h1, h2, h3, h4⟩ := hd
  constructor
  · rcases a with a | a <;> omega
  · rcases b with b | b | b <;> omega
theorem rank_le (c : Cf) (s : Sy) : rank c s ≤ c.L0 + c.L1 + 3 := by
  unfold rank
  split <;> omega
theorem round_ok {c : Cf} {s : Sy} (h : s.ok c) : (round c s).ok c := turn_ok (turn_ok h)
/-- behind the first round the ways are dry -/
theorem round_first {c : Cf} {s : Sy} (h : s.ok c) (hw : W s ≤ 450) : W (round c s) = 0 := by
  have h1 := turn_W (k := false) h
  have h2 := turn_W (k := true) (turn_ok (k := false) h)
  have h3 : W (round c s) ≤ W (turn c false s) + 3 - 400 := h2
  omega
/-- each round from dry ways brings them on -/
theorem round_on {c : Cf} {s : Sy} (h : s.ok c) (hw : W s = 0) (hm : 1 ≤ c.m) (hw0 : 1 ≤ c.w0) (hw1 : 1 ≤ c.w1) (hd : rank c s ≠ 0) : W (round c s) = 0 ∧ rank c (round c s) < rank c s := by
  refine ⟨round_first h (by omega), ?_⟩
  have hs1 := turn_ok (k := false) h
  obtain ⟨A0, B0⟩ := W_nil hw
  obtain ⟨A1, B1⟩ := turn_dry (k := false) h (by omega)
  obtain ⟨x1, x2⟩ := turn0_on h A0 B0 hm hw1
  have l0 := turn_le (k := false) h
  have l1 := turn_le (k := true) hs1
  obtain ⟨y1, y2, y3, y4⟩ := l0
  obtain ⟨z1, z2, z3, z4⟩ := l1
  have i0 := h.inv
  have i1 := hs1.inv
  have i2 := (turn_ok (k := true) hs1).inv
  have b2 : (turn c true (turn c false s)).p.u ≤ c.L0 + 1 := by rcases i2.a with a | a <;> omega
  have b3 : (turn c true (turn c false s)).q.u ≤ c.L1 + 1 := by rcases i2.b with b | b | b <;> omega
  unfold rank round at *
  by_cases hq : s.q.st = 4
  · rw [if_pos hq] at hd ⊢
    have hp := i0.ba hq
    rw [if_pos (z4 (y4 hq))]
    by_cases hu : s.p.u ≤ c.L0
    · have := (x2 hp hu).1
      omega
    · have hp1 := y3 hp
      obtain ⟨w1, w2⟩ := turn1_on hs1 A1 B1 hm hw0 hp1
      by_cases hv : (turn c false s).q.u ≤ c.L1
      · have := w2 (y4 hq) hv
        omega
      · omega
  · rw [if_neg hq] at hd ⊢
    have hp1 : (turn c false s).p.st = 4 := by
      rcases i0.a with a | a
      · exact (x1 a.1).1
      · exact y3 a.1
    obtain ⟨w1, w2⟩ := turn1_on hs1 A1 B1 hm hw0 hp1
    have hq2 : (turn c true (turn c false s)).q.st = 4 := by
      have h3 := i1.ab hp1
      rcases i1.b with b | b | b
      · omega
      · exact w1 b.1
      · exact z4 b.1
    rw [if_pos hq2]
    omega
end Pb
end Go.Proofs.Ytihhcalgjkkalaa
