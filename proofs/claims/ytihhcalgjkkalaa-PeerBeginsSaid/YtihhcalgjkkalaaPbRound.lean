/- Two who speak to one another: each turn from dry ways moves something on; within 2000 rounds each has got all (P31.3). No program in sight. -/
import Derived.Test.YtihhcalgjkkalaaPbLive
namespace Go.Proofs.Ytihhcalgjkkalaa
set_option linter.unusedVariables false
namespace Pb
def turn (c : Cf) (k : Bool) (s : Sy) : Sy := drain 400 (sayS c k (againS k s))
theorem turn_ok {c : Cf} {k : Bool} {s : Sy} (h : s.ok c) : (turn c k s).ok c := drain_ok 400 (sayS_ok (againS_ok h))
theorem turn_W {c : Cf} {k : Bool} {s : Sy} (h : s.ok c) : W (turn c k s) ≤ W s + 3 - 400 := by
  have h1 : W (turn c k s) ≤ W (sayS c k (againS k s)) - 400 := drain_W (c := c) 400 (sayS_ok (k := k) (againS_ok (k := k) h))
  have h2 := sayS_W c k (againS k s)
  rw [againS_W] at h2
  exact Nat.le_trans h1 (Nat.sub_le_sub_right h2 400)
theorem drain_nil (n : Nat) (p q : Sd) : drain n ⟨p, q, [], []⟩ = ⟨p, q, [], []⟩ := by
  cases n with
  | zero => rfl
  | succ n => rfl
theorem drain_A (n : Nat) (p q : Sd) (t : Sg) : drain (n + 1) ⟨p, q, [t], []⟩ = drain n ⟨p, (hear q t).1, [], opt (hear q t).2⟩ := rfl
theorem drain_B (n : Nat) (p q : Sd) (t : Sg) : drain (n + 1) ⟨p, q, [], [t]⟩ = drain n ⟨(hear p t).1, q, opt (hear p t).2, []⟩ := rfl
/-! ### nothing goes back -/
theorem hear_u {p : Sd} (t : Sg) (h : p.st ≠ 4 → p.u = 0) : p.u ≤ (hear p t).1.u ∧ (p.st = 4 → (hear p t).1.st = 4) := by
  unfold hear
  by_cases h1 : p.st = 1
  · rw [if_pos h1, h (by omega)]
    refine ⟨Nat.zero_le _, fun h => absurd h (by omega)⟩
  rw [if_neg h1]
  by_cases h2 : p.st = 2
  · rw [if_pos h2, h (by omega)]
    refine ⟨Nat.zero_le _, fun h => absurd h (by omega)⟩
  rw [if_neg h2]
  by_cases h3 : p.st = 3
  · rw [if_pos h3, h (by omega)]
    refine ⟨Nat.zero_le _, fun h => absurd h (by omega)⟩
  rw [if_neg h3]
  by_cases h4 : p.st = 4
  · rw [if_pos h4]
    split
    · exact ⟨(up_bounds p t).1, fun _ => rfl⟩
    · exact ⟨Nat.le_refl _, fun _ => h4⟩
  · rw [if_neg h4]
    exact ⟨Nat.le_refl _, id⟩
theorem inv_zero {c : Cf} {p q : Sd} (h : Inv c p q) : (p.st ≠ 4 → p.u = 0) ∧ (q.st ≠ 4 → q.u = 0) := by
  refine ⟨fun hn => ?_, fun hn => ?_⟩
  · rcases h.a with a | a <;> omega
  · rcases h.b with b | b | b <;> omega
/-- a step of the whole: what is acknowledged stays, who speaks stays -/
def Le (s s' : Sy) : Prop := s.p.u ≤ s'.p.u ∧ s.q.u ≤ s'.q.u ∧ (s.p.st = 4 → s'.p.st = 4) ∧ (s.q.st = 4 → s'.q.st = 4)
theorem Le.rfl_ (s : Sy) : Le s s := ⟨Nat.le_refl _, Nat.le_refl _, id, id⟩
theorem Le.trans {a b d : Sy} (h : Le a b) (k : Le b d) : Le a d := ⟨Nat.le_trans h.1 k.1, Nat.le_trans h.2.1 k.2.1, fun x => k.2.2.1 (h.2.2.1 x), fun x => k.2.2.2 (h.2.2.2 x)⟩
theorem comeS_le {c : Cf} {k : Bool} {i : Nat} {s : Sy} (h : s.ok c) : Le s (comeS k i s) := by
  obtain ⟨z0, z1⟩ := inv_zero h.inv
  unfold comeS
  cases k
  · simp only [Bool.false_eq_true, if_false]
    cases s.A[i]? with
    | none => exact Le.rfl_ s
    | some t =>
      obtain ⟨a, b⟩ := hear_u (p := s.q) t z1
      exact ⟨Nat.le_refl _, a, id, b⟩
  · simp only [if_true]
    cases s.B[i]? with
    | none => exact Le.rfl_ s
    | some t =>
      obtain ⟨a, b⟩ := hear_u (p := s.p) t z0
      exact ⟨a, Nat.le_refl _, b, id⟩
theorem drain_le {c : Cf} : ∀ (n : Nat) {s : Sy}, s.ok c → Le s (drain n s)
  | 0, s, h => Le.rfl_ s
  | n + 1, s, h => by
    unfold drain
    split
    · exact Le.rfl_ s
    · exact (comeS_le h).trans (drain_le n (comeS_ok h))
theorem say_u (c : Cf) (k : Bool) (p : Sd) : (say c k p).1.u = p.u ∧ (say c k p).1.st = p.st := by
  unfold say
  (repeat' split) <;> first | exact ⟨rfl, rfl⟩ | (rename_i h; exact ⟨rfl, by simp_all⟩) | simp_all
theorem again_u (p : Sd) : (again p).u = p.u ∧ (again p).st = p.st := by
  unfold again
  split
  · rename_i h
    exact ⟨rfl, h.symm⟩
  · exact ⟨rfl, rfl⟩
theorem turn_le {c : Cf} {k : Bool} {s : Sy} (h : s.ok c) : Le s (turn c k s) := by
  refine Le.trans ?_ (drain_le 400 (sayS_ok (k := k) (againS_ok (k := k) h)))
  cases k
  · obtain ⟨a, b⟩ := say_u c false (again s.p)
    obtain ⟨d, e⟩ := again_u s.p
    refine ⟨?_, Nat.le_refl _, fun h => ?_, id⟩
    · show s.p.u ≤ (say c false (again s.p)).1.u
      omega
    · show (say c false (again s.p)).1.st = 4
      omega
  · obtain ⟨a, b⟩ := say_u c true (again s.q)
    obtain ⟨d, e⟩ := again_u s.q
    refine ⟨Nat.le_refl _, ?_, id, fun h => ?_⟩
    · show s.q.u ≤ (say c true (again s.q)).1.u
      omega
    · show (say c true (again s.q)).1.st = 4
      omega
/-! ### a turn from dry ways -/
theorem turn_dry {c : Cf} {k : Bool} {s : Sy} (h : s.ok c) (hw : W s ≤ 397) : (turn c k s).A = [] ∧ (turn c k s).B = [] := W_nil (Nat.le_zero.1 (Nat.le_trans (turn_W (k := k) h) (by omega)))
theorem hear_nod {p : Sd} {t : Sg} (h4 : p.st = 4) (hk : t.kd = 2) : (hear p t).1 = spoke p t := by
  unfold hear
  rw [if_neg (by omega), if_neg (by omega), if_neg (by omega), if_pos h4, if_pos hk]
  rfl
/-- the one who asks: they come to speak, or what it says is acknowledged -/
theorem turn0_on {c : Cf} {s : Sy} (h : s.ok c) (hA : s.A = []) (hB : s.B = []) (hm : 1 ≤ c.m) (hw : 1 ≤ c.w1) :
    (s.p.st = 2 → (turn c false s).p.st = 4 ∧ (turn c false s).q.st = 4) ∧ (s.p.st = 4 → s.p.u ≤ c.L0 → s.p.u < (turn c false s).p.u ∧ (turn c false s).q.st = 4) := by
  obtain ⟨p, q, A, B⟩ := s
  simp only at hA hB
  subst hA hB
  obtain ⟨a, b, ab, ba, g, pu, qu⟩ := h.inv
  simp only at a b ab ba g pu qu ⊢
  refine ⟨fun h2 => ?_, fun h4 hu => ?_⟩
  · have e1 : again p = p := by unfold again; rw [if_neg (by omega)]
    have e2 : say c false p = (p, some ⟨0, 0, 0, 0⟩) := by unfold say; rw [if_pos h2]
    have e3 : turn c false ⟨p, q, [], []⟩ = drain 399 ⟨p, (hear q ⟨0, 0, 0, 0⟩).1, [], opt (hear q ⟨0, 0, 0, 0⟩).2⟩ := by
      show drain 400 ⟨(say c false (again p)).1, q, [] ++ opt (say c false (again p)).2, []⟩ = _
      rw [e1, e2]
      rfl
    obtain ⟨q1, hq1, hs⟩ : ∃ q1, hear q ⟨0, 0, 0, 0⟩ = (q1, some ⟨1, 0, 0, 0⟩) ∧ q1.st = 3 := by
      unfold hear
      rcases b with b | b | b
      · rw [if_pos b.1, if_pos rfl]
        exact ⟨_, rfl, rfl⟩
      · rw [if_neg (by omega), if_neg (by omega), if_pos b.1, if_neg (by simp)]
        exact ⟨_, rfl, b.1⟩
      · have := ba b.1
        omega
    have e4 : hear p ⟨1, 0, 0, 0⟩ = (⟨4, 1, 1, 0⟩, some ⟨2, 1, 0, 0⟩) := by
      unfold hear
      rw [if_neg (by omega), if_pos h2, if_pos rfl]
    have e5 : hear q1 ⟨2, 1, 0, 0⟩ = (spoke ⟨4, 1, q1.v, q1.got⟩ ⟨2, 1, 0, 0⟩, none) := by
      unfold hear
      rw [if_neg (by omega), if_neg (by omega), if_pos hs, if_pos rfl, if_pos rfl]
      rfl
    rw [e3, hq1]
    show (drain 399 ⟨p, q1, [], [⟨1, 0, 0, 0⟩]⟩).p.st = 4 ∧ (drain 399 ⟨p, q1, [], [⟨1, 0, 0, 0⟩]⟩).q.st = 4
    rw [drain_B 398, e4]
    show (drain 398 ⟨⟨4, 1, 1, 0⟩, q1, [⟨2, 1, 0, 0⟩], []⟩).p.st = 4 ∧ (drain 398 ⟨⟨4, 1, 1, 0⟩, q1, [⟨2, 1, 0, 0⟩], []⟩).q.st = 4
    rw [drain_A 397, e5]
    show (drain 397 ⟨⟨4, 1, 1, 0⟩, spoke ⟨4, 1, q1.v, q1.got⟩ ⟨2, 1, 0, 0⟩, [], []⟩).p.st = 4 ∧ (drain 397 ⟨⟨4, 1, 1, 0⟩, spoke ⟨4, 1, q1.v, q1.got⟩ ⟨2, 1, 0, 0⟩, [], []⟩).q.st = 4
    rw [drain_nil]
    exact ⟨rfl, rfl⟩
  · have hu1 : 1 ≤ p.u := by rcases a with a | a <;> omega
    have e1 : again p = ⟨4, p.u, p.u, p.got⟩ := by unfold again; rw [if_pos h4]
    obtain ⟨n, hn⟩ : ∃ n, n = more c false ⟨4, p.u, p.u, p.got⟩ := ⟨_, rfl⟩
    have hn1 : 1 ≤ n := by
      rw [hn]
      unfold more
      simp only [Cf.L, Cf.ot, Bool.false_eq_true, if_false]
      omega
    have e2 : say c false ⟨4, p.u, p.u, p.got⟩ = (⟨4, p.u, p.u + n, p.got⟩, some ⟨2, p.u, n, p.got⟩) := by
      unfold say
      rw [if_neg (by simp), if_neg (by simp), if_pos rfl, ← hn, if_neg (by omega)]
    have e3 : turn c false ⟨p, q, [], []⟩ = drain 399 ⟨⟨4, p.u, p.u + n, p.got⟩, (hear q ⟨2, p.u, n, p.got⟩).1, [], opt (hear q ⟨2, p.u, n, p.got⟩).2⟩ := by
      show drain 400 ⟨(say c false (again p)).1, q, [] ++ opt (say c false (again p)).2, []⟩ = _
      rw [e1, e2]
      rfl
    obtain ⟨q1, hq1, hs, hg⟩ : ∃ q1, hear q ⟨2, p.u, n, p.got⟩ = (q1, some (nod q1)) ∧ q1.st = 4 ∧ p.u + n ≤ q1.got + 1 := by
      unfold hear
      rcases b with b | b | b
      · have := ab h4
        omega
      · have hp0 : p.got = 0 := by
          by_cases hz : p.got = 0
          · exact hz
          · have := g hz
            omega
        rw [if_neg (by omega), if_neg (by omega), if_pos b.1, if_pos rfl, if_pos hp0]
        refine ⟨spoke ⟨4, 1, q.v, q.got⟩ ⟨2, p.u, n, p.got⟩, ?_, rfl, (up_bounds ⟨4, 1, q.v, q.got⟩ ⟨2, p.u, n, p.got⟩).2.2.2.2.2.2.2.2 hu1 (by simp only; omega)⟩
        unfold speak
        rw [if_neg (by simp only; omega)]
      · rw [if_neg (by omega), if_neg (by omega), if_neg (by omega), if_pos b.1, if_pos rfl]
        refine ⟨spoke q ⟨2, p.u, n, p.got⟩, ?_, rfl, (up_bounds q ⟨2, p.u, n, p.got⟩).2.2.2.2.2.2.2.2 hu1 (by simp only; omega)⟩
        unfold speak
        rw [if_neg (by simp only; omega)]
    have e4 : hear ⟨4, p.u, p.u + n, p.got⟩ (nod q1) = (spoke ⟨4, p.u, p.u + n, p.got⟩ (nod q1), none) := by
      unfold hear
      rw [if_neg (by simp), if_neg (by simp), if_neg (by simp), if_pos rfl, if_pos (show (nod q1).kd = 2 from rfl)]
      rfl
    have hub := (up_bounds ⟨4, p.u, p.u + n, p.got⟩ (nod q1)).2.2.2.2.2.2.2.1
    rw [e3, hq1]
    show p.u < (drain 399 ⟨⟨4, p.u, p.u + n, p.got⟩, q1, [], [nod q1]⟩).p.u ∧ (drain 399 ⟨⟨4, p.u, p.u + n, p.got⟩, q1, [], [nod q1]⟩).q.st = 4
    rw [drain_B 398, e4]
    show p.u < (drain 398 ⟨spoke ⟨4, p.u, p.u + n, p.got⟩ (nod q1), q1, [], []⟩).p.u ∧ (drain 398 ⟨spoke ⟨4, p.u, p.u + n, p.got⟩ (nod q1), q1, [], []⟩).q.st = 4
    rw [drain_nil]
    refine ⟨?_, hs⟩
    show p.u < upU ⟨4, p.u, p.u + n, p.got⟩ (nod q1)
    have : (nod q1).g = q1.got := rfl
    omega
end Pb
end Go.Proofs.Ytihhcalgjkkalaa
