/- Two who speak to one another, over numbers: what each has got is a beginning of what the other one says (P31.3). No program in sight. -/
import Derived.Test.YtihhcalgjkkalaaOwn
namespace Go.Proofs.Ytihhcalgjkkalaa
set_option linter.unusedVariables false
namespace Pb
/-- a side: its state, what is acknowledged and said next (less the first number), how many bytes it has got -/
structure Sd where
  st : Nat
  u : Nat
  v : Nat
  got : Nat
/-- a segment: 0 the first one, 1 its answer, 2 any other; where it begins, how long it is, what it acknowledges -/
structure Sg where
  kd : Nat
  s : Nat
  n : Nat
  g : Nat
structure Cf where
  L0 : Nat
  L1 : Nat
  w0 : Nat
  w1 : Nat
  m : Nat
def Cf.L (c : Cf) (k : Bool) : Nat := if k then c.L1 else c.L0
def Cf.ot (c : Cf) (k : Bool) : Nat := if k then c.w0 else c.w1
def more (c : Cf) (k : Bool) (p : Sd) : Nat := min (min (c.L k + 1 - p.v) c.m) (p.u + c.ot k - p.v)
def nod (p : Sd) : Sg := ⟨2, p.v, 0, p.got⟩
def say (c : Cf) (k : Bool) (p : Sd) : Sd × Option Sg :=
  if p.st = 2 then (p, some ⟨0, 0, 0, 0⟩) else if p.st = 3 then (p, some ⟨1, 0, 0, 0⟩) else if p.st = 4 then (if more c k p = 0 then (p, none) else (⟨4, p.u, p.v + more c k p, p.got⟩, some ⟨2, p.v, more c k p, p.got⟩)) else (p, none)
def upU (p : Sd) (t : Sg) : Nat := if p.u < t.g + 1 then t.g + 1 else p.u
def upV (p : Sd) (t : Sg) : Nat := if p.u < t.g + 1 then max p.v (t.g + 1) else p.v
def upG (p : Sd) (t : Sg) : Nat := if t.s ≤ p.got + 1 ∧ p.got + 1 < t.s + t.n then t.s + t.n - 1 else p.got
def spoke (p : Sd) (t : Sg) : Sd := ⟨4, upU p t, upV p t, upG p t⟩
def speak (p : Sd) (t : Sg) : Sd × Option Sg := (spoke p t, if t.n = 0 then none else some (nod (spoke p t)))
def hear (p : Sd) (t : Sg) : Sd × Option Sg :=
  if p.st = 1 then (if t.kd = 0 then (⟨3, 0, 1, 0⟩, some ⟨1, 0, 0, 0⟩) else (p, none))
  else if p.st = 2 then (if t.kd = 1 then (⟨4, 1, 1, 0⟩, some ⟨2, 1, 0, 0⟩) else (p, none))
  else if p.st = 3 then (if t.kd = 2 then (if t.g = 0 then speak ⟨4, 1, p.v, p.got⟩ t else (p, none)) else (p, some ⟨1, 0, 0, 0⟩))
  else if p.st = 4 then (if t.kd = 2 then speak p t else (p, some (nod p))) else (p, none)
def again (p : Sd) : Sd := if p.st = 4 then ⟨4, p.u, p.u, p.got⟩ else p
/-- what two sides always are -/
structure Inv (c : Cf) (p q : Sd) : Prop where
  a : (p.st = 2 ∧ p.u = 0 ∧ p.v = 1 ∧ p.got = 0) ∨ (p.st = 4 ∧ 1 ≤ p.u ∧ p.u ≤ p.v ∧ p.v ≤ c.L0 + 1 ∧ p.got ≤ c.L1)
  b : (q.st = 1 ∧ q.u = 0 ∧ q.v = 0 ∧ q.got = 0) ∨ (q.st = 3 ∧ q.u = 0 ∧ q.v = 1 ∧ q.got = 0) ∨ (q.st = 4 ∧ 1 ≤ q.u ∧ q.u ≤ q.v ∧ q.v ≤ c.L1 + 1 ∧ q.got ≤ c.L0)
  ab : p.st = 4 → 3 ≤ q.st
  ba : q.st = 4 → p.st = 4
  g : p.got ≠ 0 → q.st = 4
  pu : p.u ≤ 1 + q.got
  qu : q.u ≤ 1 + p.got
/-- a segment of the one who asks; of the one who waits -/
def Ok0 (c : Cf) (p : Sd) (t : Sg) : Prop := (t.kd = 0 ∧ t.s = 0 ∧ t.n = 0 ∧ t.g = 0) ∨ (t.kd = 2 ∧ p.st = 4 ∧ 1 ≤ t.s ∧ t.s + t.n ≤ c.L0 + 1 ∧ t.g ≤ p.got)
def Ok1 (c : Cf) (q : Sd) (t : Sg) : Prop := (t.kd = 1 ∧ t.s = 0 ∧ t.n = 0 ∧ t.g = 0 ∧ 3 ≤ q.st) ∨ (t.kd = 2 ∧ q.st = 4 ∧ 1 ≤ t.s ∧ t.s + t.n ≤ c.L1 + 1 ∧ t.g ≤ q.got)
/-- a side goes on -/
def Up (p p' : Sd) : Prop := (p.st = 4 → p'.st = 4) ∧ (3 ≤ p.st → 3 ≤ p'.st) ∧ p.got ≤ p'.got
theorem Up.rfl_ (p : Sd) : Up p p := ⟨id, id, Nat.le_refl _⟩
theorem Ok0.up {c : Cf} {p p' : Sd} {t : Sg} (h : Ok0 c p t) (hu : Up p p') : Ok0 c p' t := by
  rcases h with h | ⟨h1, h2, h3, h4, h5⟩
  · exact .inl h
  · exact .inr ⟨h1, hu.1 h2, h3, h4, Nat.le_trans h5 hu.2.2⟩
theorem Ok1.up {c : Cf} {p p' : Sd} {t : Sg} (h : Ok1 c p t) (hu : Up p p') : Ok1 c p' t := by
  rcases h with ⟨h0, h1, h2, h3, h4⟩ | ⟨h1, h2, h3, h4, h5⟩
  · exact .inl ⟨h0, h1, h2, h3, hu.2.1 h4⟩
  · exact .inr ⟨h1, hu.1 h2, h3, h4, Nat.le_trans h5 hu.2.2⟩
theorem up_bounds (p : Sd) (t : Sg) : p.u ≤ upU p t ∧ p.v ≤ upV p t ∧ p.got ≤ upG p t ∧ (upU p t = p.u ∨ upU p t = t.g + 1) ∧ (upV p t = p.v ∨ upV p t = t.g + 1) ∧ (upG p t = p.got ∨ upG p t + 1 = t.s + t.n) ∧ (p.u ≤ p.v → upU p t ≤ upV p t) ∧ t.g + 1 ≤ upU p t ∧ (1 ≤ t.s → t.s ≤ p.got + 1 → t.s + t.n ≤ upG p t + 1) := by
  unfold upU upV upG
  refine ⟨?_, ?_, ?_, ?_, ?_, ?_, ?_, ?_, ?_⟩ <;> (repeat' split) <;> omega
theorem more_le (c : Cf) (k : Bool) (p : Sd) : p.v + more c k p ≤ max p.v (c.L k + 1) := by
  unfold more
  omega
/-! ### each thing that may happen -/
theorem say0 {c : Cf} {p q : Sd} (h : Inv c p q) : Inv c (say c false p).1 q ∧ Up p (say c false p).1 ∧ ∀ t, (say c false p).2 = some t → Ok0 c (say c false p).1 t := by
  obtain ⟨a, b, ab, ba, g, pu, qu⟩ := h
  have hm := more_le c false p
  simp only [Cf.L, Bool.false_eq_true, if_false] at hm
  unfold say
  rcases a with ⟨a1, a2, a3, a4⟩ | ⟨a1, a2, a3, a4, a5⟩
  · rw [if_pos a1]
    exact ⟨⟨.inl ⟨a1, a2, a3, a4⟩, b, ab, ba, g, pu, qu⟩, Up.rfl_ _, fun t ht => by injection ht with ht; subst ht; exact .inl ⟨rfl, rfl, rfl, rfl⟩⟩
  · rw [if_neg (by omega), if_neg (by omega), if_pos a1]
    by_cases hz : more c false p = 0
    · rw [if_pos hz]
      exact ⟨⟨.inr ⟨a1, a2, a3, a4, a5⟩, b, ab, ba, g, pu, qu⟩, Up.rfl_ _, fun t ht => by cases ht⟩
    · rw [if_neg hz]
      refine ⟨⟨.inr ⟨rfl, a2, (by simp only; omega), (by simp only; omega), a5⟩, b, fun _ => ab a1, fun _ => rfl, g, pu, qu⟩, ⟨fun _ => rfl, fun _ => (by simp), Nat.le_refl _⟩, fun t ht => ?_⟩
      injection ht with ht
      subst ht
      exact .inr ⟨rfl, rfl, (by simp only; omega), (by simp only; omega), Nat.le_refl _⟩
theorem say1 {c : Cf} {p q : Sd} (h : Inv c p q) : Inv c p (say c true q).1 ∧ Up q (say c true q).1 ∧ ∀ t, (say c true q).2 = some t → Ok1 c (say c true q).1 t := by
  obtain ⟨a, b, ab, ba, g, pu, qu⟩ := h
  have hm := more_le c true q
  simp only [Cf.L, if_true] at hm
  unfold say
  rcases b with ⟨b1, b2, b3, b4⟩ | ⟨b1, b2, b3, b4⟩ | ⟨b1, b2, b3, b4, b5⟩
  · rw [if_neg (by omega), if_neg (by omega), if_neg (by omega)]
    exact ⟨⟨a, .inl ⟨b1, b2, b3, b4⟩, ab, ba, g, pu, qu⟩, Up.rfl_ _, fun t ht => by cases ht⟩
  · rw [if_neg (by omega), if_pos b1]
    exact ⟨⟨a, .inr (.inl ⟨b1, b2, b3, b4⟩), ab, ba, g, pu, qu⟩, Up.rfl_ _, fun t ht => by injection ht with ht; subst ht; exact .inl ⟨rfl, rfl, rfl, rfl, (show 3 ≤ q.st by omega)⟩⟩
  · rw [if_neg (by omega), if_neg (by omega), if_pos b1]
    by_cases hz : more c true q = 0
    · rw [if_pos hz]
      exact ⟨⟨a, .inr (.inr ⟨b1, b2, b3, b4, b5⟩), ab, ba, g, pu, qu⟩, Up.rfl_ _, fun t ht => by cases ht⟩
    · rw [if_neg hz]
      refine ⟨⟨a, .inr (.inr ⟨rfl, b2, (by simp only; omega), (by simp only; omega), b5⟩), fun _ => (by simp), fun _ => ba b1, fun _ => rfl, pu, qu⟩, ⟨fun _ => rfl, fun _ => (by simp), Nat.le_refl _⟩, fun t ht => ?_⟩
      injection ht with ht
      subst ht
      exact .inr ⟨rfl, rfl, (by simp only; omega), (by simp only; omega), Nat.le_refl _⟩
theorem again0 {c : Cf} {p q : Sd} (h : Inv c p q) : Inv c (again p) q ∧ Up p (again p) := by
  obtain ⟨a, b, ab, ba, g, pu, qu⟩ := h
  unfold again
  by_cases h4 : p.st = 4
  · rw [if_pos h4]
    exact ⟨⟨.inr ⟨rfl, (by simp only; omega), Nat.le_refl _, (by simp only; omega), (by simp only; omega)⟩, b, fun _ => ab h4, fun _ => rfl, g, pu, qu⟩, fun _ => rfl, fun _ => (by simp), Nat.le_refl _⟩
  · rw [if_neg h4]
    exact ⟨⟨a, b, ab, ba, g, pu, qu⟩, Up.rfl_ _⟩
theorem again1 {c : Cf} {p q : Sd} (h : Inv c p q) : Inv c p (again q) ∧ Up q (again q) := by
  obtain ⟨a, b, ab, ba, g, pu, qu⟩ := h
  unfold again
  by_cases h4 : q.st = 4
  · rw [if_pos h4]
    exact ⟨⟨a, .inr (.inr ⟨rfl, (by simp only; omega), Nat.le_refl _, (by simp only; omega), (by simp only; omega)⟩), fun _ => (by simp), fun _ => ba h4, fun _ => rfl, pu, qu⟩, fun _ => rfl, fun _ => (by simp), Nat.le_refl _⟩
  · rw [if_neg h4]
    exact ⟨⟨a, b, ab, ba, g, pu, qu⟩, Up.rfl_ _⟩
/-- the one who waits hears a segment of the one who asks -/
theorem hear1 {c : Cf} {p q : Sd} {t : Sg} (h : Inv c p q) (ht : Ok0 c p t) : Inv c p (hear q t).1 ∧ Up q (hear q t).1 ∧ ∀ r, (hear q t).2 = some r → Ok1 c (hear q t).1 r := by
  obtain ⟨a, b, ab, ba, g, pu, qu⟩ := h
  unfold hear
  rcases b with ⟨b1, b2, b3, b4⟩ | ⟨b1, b2, b3, b4⟩ | ⟨b1, b2, b3, b4, b5⟩
  · rw [if_pos b1]
    rcases ht with ⟨t1, t2, t3, t4⟩ | ⟨t1, t2, t3, t4, t5⟩
    · rw [if_pos t1]
      refine ⟨⟨a, .inr (.inl ⟨rfl, rfl, rfl, rfl⟩), fun _ => Nat.le_refl _, fun h => absurd h (by simp), fun h => absurd (g h) (by omega), (by simp only; omega), (by simp only; omega)⟩, ⟨fun h => absurd h (by omega), fun h => absurd h (by omega), (by simp only; omega)⟩, fun r hr => ?_⟩
      injection hr with hr
      subst hr
      exact .inl ⟨rfl, rfl, rfl, rfl, Nat.le_refl _⟩
    · exact absurd (ab t2) (by omega)
  · rw [if_neg (by omega), if_neg (by omega), if_pos b1]
    rcases ht with ⟨t1, t2, t3, t4⟩ | ⟨t1, t2, t3, t4, t5⟩
    · rw [if_neg (by omega)]
      refine ⟨⟨a, .inr (.inl ⟨b1, b2, b3, b4⟩), ab, ba, g, pu, qu⟩, Up.rfl_ _, fun r hr => ?_⟩
      injection hr with hr
      subst hr
      exact .inl ⟨rfl, rfl, rfl, rfl, (show 3 ≤ q.st by omega)⟩
    · rw [if_pos t1]
      have hp0 : p.got = 0 := by
        by_cases hz : p.got = 0
        · exact hz
        · exact absurd (g hz) (by omega)
      rw [if_pos (by omega)]
      obtain ⟨k1, k2, k3, k4, k5, k6, k7, k8, k9⟩ := up_bounds ⟨4, 1, q.v, q.got⟩ t
      simp only at k1 k2 k3 k4 k5 k6 k7 k8 k9
      have a' : p.st = 4 ∧ 1 ≤ p.u ∧ p.u ≤ p.v ∧ p.v ≤ c.L0 + 1 ∧ p.got ≤ c.L1 := by
        rcases a with a | a
        · omega
        · exact a
      unfold speak
      refine ⟨⟨a, .inr (.inr ⟨rfl, (by simp only [spoke]; omega), (by simp only [spoke]; omega), (by simp only [spoke]; omega), (by simp only [spoke]; omega)⟩), fun _ => (by simp [spoke]), fun _ => t2, fun _ => rfl, (by simp only [spoke]; omega), (by simp only [spoke]; omega)⟩, ⟨fun _ => rfl, fun _ => (by simp [spoke]), (by simp only [spoke]; omega)⟩, fun r hr => ?_⟩
      by_cases hn : t.n = 0
      · rw [if_pos hn] at hr
        cases hr
      · rw [if_neg hn] at hr
        injection hr with hr
        subst hr
        exact .inr ⟨rfl, rfl, (by simp only [nod, spoke]; omega), (by simp only [nod, spoke]; omega), (by simp only [nod]; exact Nat.le_refl _)⟩
  · rw [if_neg (by omega), if_neg (by omega), if_neg (by omega), if_pos b1]
    have a' : p.st = 4 ∧ 1 ≤ p.u ∧ p.u ≤ p.v ∧ p.v ≤ c.L0 + 1 ∧ p.got ≤ c.L1 := by
      have := ba b1
      rcases a with a | a
      · omega
      · exact a
    rcases ht with ⟨t1, t2, t3, t4⟩ | ⟨t1, t2, t3, t4, t5⟩
    · rw [if_neg (by omega)]
      refine ⟨⟨a, .inr (.inr ⟨b1, b2, b3, b4, b5⟩), ab, ba, g, pu, qu⟩, Up.rfl_ _, fun r hr => ?_⟩
      injection hr with hr
      subst hr
      exact .inr ⟨rfl, b1, (by simp only [nod]; omega), (by simp only [nod]; omega), Nat.le_refl _⟩
    · rw [if_pos t1]
      obtain ⟨k1, k2, k3, k4, k5, k6, k7, k8, k9⟩ := up_bounds q t
      unfold speak
      refine ⟨⟨a, .inr (.inr ⟨rfl, (by simp only [spoke]; omega), (by simp only [spoke]; omega), (by simp only [spoke]; omega), (by simp only [spoke]; omega)⟩), fun _ => (by simp [spoke]), fun _ => t2, fun _ => rfl, (by simp only [spoke]; omega), (by simp only [spoke]; omega)⟩, ⟨fun _ => rfl, fun _ => (by simp [spoke]), (by simp only [spoke]; omega)⟩, fun r hr => ?_⟩
      by_cases hn : t.n = 0
      · rw [if_pos hn] at hr
        cases hr
      · rw [if_neg hn] at hr
        injection hr with hr
        subst hr
        exact .inr ⟨rfl, rfl, (by simp only [nod, spoke]; omega), (by simp only [nod, spoke]; omega), (by simp only [nod]; exact Nat.le_refl _)⟩
/-- the one who asks hears a segment of the one who waits -/
theorem hear0 {c : Cf} {p q : Sd} {t : Sg} (h : Inv c p q) (ht : Ok1 c q t) : Inv c (hear p t).1 q ∧ Up p (hear p t).1 ∧ ∀ r, (hear p t).2 = some r → Ok0 c (hear p t).1 r := by
  obtain ⟨a, b, ab, ba, g, pu, qu⟩ := h
  unfold hear
  rcases a with ⟨a1, a2, a3, a4⟩ | ⟨a1, a2, a3, a4, a5⟩
  · rw [if_neg (by omega), if_pos a1]
    rcases ht with ⟨t1, t2, t3, t4, t6⟩ | ⟨t1, t2, t3, t4, t5⟩
    · rw [if_pos t1]
      refine ⟨⟨.inr ⟨rfl, Nat.le_refl _, Nat.le_refl _, (by simp only; omega), (by simp only; omega)⟩, b, fun _ => t6, fun _ => rfl, fun h => absurd rfl h, (by simp only; omega), (by simp only; omega)⟩, ⟨fun _ => rfl, fun _ => (by simp), (by simp only; omega)⟩, fun r hr => ?_⟩
      injection hr with hr
      subst hr
      exact .inr ⟨rfl, rfl, (by simp only; omega), (by simp only; omega), Nat.le_refl _⟩
    · exact absurd (ba t2) (by omega)
  · rw [if_neg (by omega), if_neg (by omega), if_neg (by omega), if_pos a1]
    rcases ht with ⟨t1, t2, t3, t4, t6⟩ | ⟨t1, t2, t3, t4, t5⟩
    · rw [if_neg (by omega)]
      refine ⟨⟨.inr ⟨a1, a2, a3, a4, a5⟩, b, ab, ba, g, pu, qu⟩, Up.rfl_ _, fun r hr => ?_⟩
      injection hr with hr
      subst hr
      exact .inr ⟨rfl, a1, (by simp only [nod]; omega), (by simp only [nod]; omega), Nat.le_refl _⟩
    · rw [if_pos t1]
      obtain ⟨k1, k2, k3, k4, k5, k6, k7, k8, k9⟩ := up_bounds p t
      have b' : q.st = 4 ∧ 1 ≤ q.u ∧ q.u ≤ q.v ∧ q.v ≤ c.L1 + 1 ∧ q.got ≤ c.L0 := by
        rcases b with b | b | b
        · omega
        · omega
        · exact b
      unfold speak
      refine ⟨⟨.inr ⟨rfl, (by simp only [spoke]; omega), (by simp only [spoke]; omega), (by simp only [spoke]; omega), (by simp only [spoke]; omega)⟩, b, fun _ => (by omega), fun _ => rfl, fun _ => t2, (by simp only [spoke]; omega), (by simp only [spoke]; omega)⟩, ⟨fun _ => rfl, fun _ => (by simp [spoke]), (by simp only [spoke]; omega)⟩, fun r hr => ?_⟩
      by_cases hn : t.n = 0
      · rw [if_pos hn] at hr
        cases hr
      · rw [if_neg hn] at hr
        injection hr with hr
        subst hr
        exact .inr ⟨rfl, rfl, (by simp only [nod, spoke]; omega), (by simp only [nod, spoke]; omega), (by simp only [nod]; exact Nat.le_refl _)⟩
end Pb
end Go.Proofs.Ytihhcalgjkkalaa
