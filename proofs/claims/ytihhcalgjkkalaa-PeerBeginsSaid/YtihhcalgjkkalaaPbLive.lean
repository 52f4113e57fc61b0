/- Two who speak to one another: what is on its way runs dry; turn by turn each gets all (P31.3). No program in sight. -/
import Derived.Test.YtihhcalgjkkalaaPbPlain
namespace Go.Proofs.Ytihhcalgjkkalaa
set_option linter.unusedVariables false
namespace Pb
structure Sy where
  p : Sd
  q : Sd
  A : List Sg
  B : List Sg
structure Sy.ok (c : Cf) (s : Sy) : Prop where
  inv : Inv c s.p s.q
  a : ∀ t ∈ s.A, Ok0 c s.p t
  b : ∀ t ∈ s.B, Ok1 c s.q t
def opt (o : Option Sg) : List Sg := o.toList
def sayS (c : Cf) (k : Bool) (s : Sy) : Sy := if k then ⟨s.p, (say c true s.q).1, s.A, s.B ++ opt (say c true s.q).2⟩ else ⟨(say c false s.p).1, s.q, s.A ++ opt (say c false s.p).2, s.B⟩
def againS (k : Bool) (s : Sy) : Sy := if k then ⟨s.p, again s.q, s.A, s.B⟩ else ⟨again s.p, s.q, s.A, s.B⟩
/-- the segment at a place of a side's way comes; is lost; is doubled -/
def comeS (k : Bool) (i : Nat) (s : Sy) : Sy :=
  if k then (match s.B[i]? with | none => s | some t => ⟨(hear s.p t).1, s.q, s.A ++ opt (hear s.p t).2, s.B.eraseIdx i⟩)
  else (match s.A[i]? with | none => s | some t => ⟨s.p, (hear s.q t).1, s.A.eraseIdx i, s.B ++ opt (hear s.q t).2⟩)
def loseS (k : Bool) (i : Nat) (s : Sy) : Sy := if k then ⟨s.p, s.q, s.A, s.B.eraseIdx i⟩ else ⟨s.p, s.q, s.A.eraseIdx i, s.B⟩
def twiceS (k : Bool) (i : Nat) (s : Sy) : Sy := if k then ⟨s.p, s.q, s.A, s.B ++ opt s.B[i]?⟩ else ⟨s.p, s.q, s.A ++ opt s.A[i]?, s.B⟩
theorem mem_opt {o : Option Sg} {t : Sg} (h : t ∈ opt o) : o = some t := by
  cases o with
  | none => cases h
  | some x => simp [opt] at h; rw [h]
theorem mem_erase {l : List Sg} {i : Nat} {t : Sg} (h : t ∈ l.eraseIdx i) : t ∈ l := List.mem_of_mem_eraseIdx h
theorem sayS_ok {c : Cf} {k : Bool} {s : Sy} (h : s.ok c) : (sayS c k s).ok c := by
  cases k
  · obtain ⟨i, u, r⟩ := say0 h.inv
    refine ⟨i, fun t ht => ?_, h.b⟩
    rcases List.mem_append.1 ht with ht | ht
    · exact (h.a t ht).up u
    · exact r t (mem_opt ht)
  · obtain ⟨i, u, r⟩ := say1 h.inv
    refine ⟨i, h.a, fun t ht => ?_⟩
    rcases List.mem_append.1 ht with ht | ht
    · exact (h.b t ht).up u
    · exact r t (mem_opt ht)
theorem againS_ok {c : Cf} {k : Bool} {s : Sy} (h : s.ok c) : (againS k s).ok c := by
  cases k
  · obtain ⟨i, u⟩ := again0 h.inv
    exact ⟨i, fun t ht => (h.a t ht).up u, h.b⟩
  · obtain ⟨i, u⟩ := again1 h.inv
    exact ⟨i, h.a, fun t ht => (h.b t ht).up u⟩
theorem comeS_ok {c : Cf} {k : Bool} {i : Nat} {s : Sy} (h : s.ok c) : (comeS k i s).ok c := by
  unfold comeS
  cases k
  · simp only [Bool.false_eq_true, if_false]
    cases ht : s.A[i]? with
    | none => exact h
    | some t =>
      obtain ⟨j, u, r⟩ := hear1 h.inv (h.a t (List.mem_of_getElem? ht))
      refine ⟨j, fun x hx => h.a x (mem_erase hx), fun x hx => ?_⟩
      rcases List.mem_append.1 hx with hx | hx
      · exact (h.b x hx).up u
      · exact r x (mem_opt hx)
  · simp only [if_true]
    cases ht : s.B[i]? with
    | none => exact h
    | some t =>
      obtain ⟨j, u, r⟩ := hear0 h.inv (h.b t (List.mem_of_getElem? ht))
      refine ⟨j, fun x hx => ?_, fun x hx => h.b x (mem_erase hx)⟩
      rcases List.mem_append.1 hx with hx | hx
      · exact (h.a x hx).up u
      · exact r x (mem_opt hx)
theorem loseS_ok {c : Cf} {k : Bool} {i : Nat} {s : Sy} (h : s.ok c) : (loseS k i s).ok c := by
  cases k
  · exact ⟨h.inv, fun x hx => h.a x (mem_erase hx), h.b⟩
  · exact ⟨h.inv, h.a, fun x hx => h.b x (mem_erase hx)⟩
theorem twiceS_ok {c : Cf} {k : Bool} {i : Nat} {s : Sy} (h : s.ok c) : (twiceS k i s).ok c := by
  cases k
  · refine ⟨h.inv, fun x hx => ?_, h.b⟩
    rcases List.mem_append.1 hx with hx | hx
    · exact h.a x hx
    · exact h.a x (List.mem_of_getElem? (mem_opt hx))
  · refine ⟨h.inv, h.a, fun x hx => ?_⟩
    rcases List.mem_append.1 hx with hx | hx
    · exact h.b x hx
    · exact h.b x (List.mem_of_getElem? (mem_opt hx))
/-! ### what is on its way -/
def wt (t : Sg) : Nat := if t.kd = 0 then 3 else if t.kd = 1 then 2 else if t.n = 0 then 1 else 2
def wts (l : List Sg) : Nat := (l.map wt).sum
def W (s : Sy) : Nat := wts s.A + wts s.B
theorem wt_pos (t : Sg) : 1 ≤ wt t ∧ wt t ≤ 3 := by
  unfold wt
  (repeat' split) <;> omega
theorem wts_app (a b : List Sg) : wts (a ++ b) = wts a + wts b := by simp [wts]
theorem wts_nil {l : List Sg} (h : wts l = 0) : l = [] := by
  cases l with
  | nil => rfl
  | cons t l => simp only [wts, List.map_cons, List.sum_cons] at h; have := wt_pos t; omega
theorem wts_erase : ∀ (l : List Sg) (i : Nat) (t : Sg), l[i]? = some t → wts (l.eraseIdx i) + wt t = wts l
  | [], _, _, h => by simp at h
  | x :: l, 0, t, h => by
    simp at h
    subst h
    simp [wts]
    omega
  | x :: l, i + 1, t, h => by
    have := wts_erase l i t (by simpa using h)
    simp only [List.eraseIdx_cons_succ, wts, List.map_cons, List.sum_cons] at this ⊢
    omega
theorem wts_erase_le (l : List Sg) (i : Nat) : wts (l.eraseIdx i) ≤ wts l := by
  cases h : l[i]? with
  | none => rw [List.eraseIdx_of_length_le (by simpa using h)]; exact Nat.le_refl _
  | some t => have := wts_erase l i t h; omega
/-- what comes back weighs less -/
theorem hear_wt (p : Sd) (t : Sg) (hk : t.kd = 0 ∨ t.kd = 2 ∨ (t.kd = 1 ∧ p.st ≠ 3)) : wts (opt (hear p t).2) + 1 ≤ wt t := by
  have h := wt_pos t
  have one : ∀ r : Sg, wts (opt (some r)) = wt r := fun r => by simp [opt, wts]
  have non : wts (opt none) = 0 := rfl
  have sp : ∀ p', t.kd = 2 → wts (opt (speak p' t).2) + 1 ≤ wt t := fun p' hk => by
    unfold speak
    have e : wt t = if t.n = 0 then 1 else 2 := by unfold wt; rw [if_neg (by omega), if_neg (by omega)]
    rw [e]
    by_cases hn : t.n = 0
    · simp only [if_pos hn, non]
      omega
    · simp only [if_neg hn, one]
      exact Nat.le_refl 2
  unfold hear
  by_cases h1 : p.st = 1
  · rw [if_pos h1]
    by_cases k0 : t.kd = 0
    · rw [if_pos k0]
      show wts (opt (some ⟨1, 0, 0, 0⟩)) + 1 ≤ _
      rw [one]
      unfold wt
      rw [if_pos k0]
      decide
    · rw [if_neg k0]
      simp only [non]
      omega
  rw [if_neg h1]
  by_cases h2 : p.st = 2
  · rw [if_pos h2]
    by_cases k1 : t.kd = 1
    · rw [if_pos k1]
      show wts (opt (some ⟨2, 1, 0, 0⟩)) + 1 ≤ _
      rw [one]
      have e1 : wt ⟨2, 1, 0, 0⟩ = 1 := rfl
      have e2 : wt t = 2 := by unfold wt; rw [if_neg (by omega), if_pos k1]
      omega
    · rw [if_neg k1]
      simp only [non]
      omega
  rw [if_neg h2]
  by_cases h3 : p.st = 3
  · rw [if_pos h3]
    by_cases k2 : t.kd = 2
    · rw [if_pos k2]
      by_cases hg : t.g = 0
      · rw [if_pos hg]
        exact sp _ k2
      · rw [if_neg hg]
        simp only [non]
        omega
    · rw [if_neg k2]
      have k0 : t.kd = 0 := by omega
      show wts (opt (some ⟨1, 0, 0, 0⟩)) + 1 ≤ _
      rw [one]
      unfold wt
      rw [if_pos k0]
      decide
  rw [if_neg h3]
  by_cases h4 : p.st = 4
  · rw [if_pos h4]
    by_cases k2 : t.kd = 2
    · rw [if_pos k2]
      exact sp _ k2
    · rw [if_neg k2]
      show wts (opt (some (nod p))) + 1 ≤ _
      rw [one]
      have e : wt (nod p) = 1 := rfl
      rw [e]
      unfold wt
      rcases hk with hk | hk | hk
      · rw [if_pos hk]
        omega
      · exact absurd hk k2
      · rw [if_neg (by omega), if_pos hk.1]
        omega
  · rw [if_neg h4]
    simp only [non]
    omega
theorem comeS_W {c : Cf} {k : Bool} {i : Nat} {s : Sy} (h : s.ok c) (hi : i < (if k then s.B else s.A).length) : W (comeS k i s) + 1 ≤ W s := by
  unfold comeS W
  cases k
  · simp only [Bool.false_eq_true, if_false] at hi ⊢
    rw [List.getElem?_eq_getElem hi]
    simp only [wts_app]
    have h1 := wts_erase s.A i _ (List.getElem?_eq_getElem hi)
    have h2 := hear_wt s.q s.A[i] (by
      rcases h.a _ (List.getElem_mem hi) with h | h
      · exact .inl h.1
      · exact .inr (.inl h.1))
    omega
  · simp only [if_true] at hi ⊢
    rw [List.getElem?_eq_getElem hi]
    simp only [wts_app]
    have h1 := wts_erase s.B i _ (List.getElem?_eq_getElem hi)
    have hp : s.p.st ≠ 3 := by
      rcases h.inv.a with a | a <;> omega
    have h2 := hear_wt s.p s.B[i] (by
      rcases h.b _ (List.getElem_mem hi) with h | h
      · exact .inr (.inr ⟨h.1, hp⟩)
      · exact .inr (.inl h.1))
    omega
theorem opt_W (o : Option Sg) : wts (opt o) ≤ 3 := by
  cases o with
  | none => exact Nat.zero_le _
  | some t => have := (wt_pos t).2; simp [opt, wts]; omega
theorem sayS_W (c : Cf) (k : Bool) (s : Sy) : W (sayS c k s) ≤ W s + 3 := by
  cases k
  · have := opt_W (say c false s.p).2
    show wts (s.A ++ opt (say c false s.p).2) + wts s.B ≤ _
    rw [wts_app]
    unfold W
    omega
  · have := opt_W (say c true s.q).2
    show wts s.A + wts (s.B ++ opt (say c true s.q).2) ≤ _
    rw [wts_app]
    unfold W
    omega
theorem twiceS_W (k : Bool) (i : Nat) (s : Sy) : W (twiceS k i s) ≤ W s + 3 := by
  cases k
  · have := opt_W s.A[i]?
    show wts (s.A ++ opt s.A[i]?) + wts s.B ≤ _
    rw [wts_app]
    unfold W
    omega
  · have := opt_W s.B[i]?
    show wts s.A + wts (s.B ++ opt s.B[i]?) ≤ _
    rw [wts_app]
    unfold W
    omega
theorem loseS_W (k : Bool) (i : Nat) (s : Sy) : W (loseS k i s) ≤ W s := by
  cases k
  · have := wts_erase_le s.A i
    show wts (s.A.eraseIdx i) + wts s.B ≤ _
    unfold W
    omega
  · have := wts_erase_le s.B i
    show wts s.A + wts (s.B.eraseIdx i) ≤ _
    unfold W
    omega
theorem comeS_W' {c : Cf} {k : Bool} {i : Nat} {s : Sy} (h : s.ok c) : W (comeS k i s) ≤ W s := by
  by_cases hi : i < (if k then s.B else s.A).length
  · have := comeS_W h hi
    omega
  · have e : comeS k i s = s := by
      unfold comeS
      cases k
      · simp only [Bool.false_eq_true, if_false] at hi ⊢
        rw [List.getElem?_eq_none (by omega)]
      · simp only [if_true] at hi ⊢
        rw [List.getElem?_eq_none (by omega)]
    rw [e]
    exact Nat.le_refl _
theorem againS_W (k : Bool) (s : Sy) : W (againS k s) = W s := by
  cases k <;> rfl
/-- what comes, one by one, at most n -/
def drain : Nat → Sy → Sy
  | 0, s => s
  | n + 1, s => if s.A.length + s.B.length = 0 then s else drain n (comeS (decide (s.A.length = 0)) 0 s)
theorem drain_ok {c : Cf} : ∀ (n : Nat) {s : Sy}, s.ok c → (drain n s).ok c
  | 0, s, h => h
  | n + 1, s, h => by
    unfold drain
    split
    · exact h
    · exact drain_ok n (comeS_ok h)
theorem W_nil {s : Sy} (h : W s = 0) : s.A = [] ∧ s.B = [] := by
  unfold W at h
  exact ⟨wts_nil (by omega), wts_nil (by omega)⟩
theorem drain_W {c : Cf} : ∀ (n : Nat) {s : Sy}, s.ok c → W (drain n s) ≤ W s - n
  | 0, s, h => Nat.le_refl _
  | n + 1, s, h => by
    unfold drain
    split
    · rename_i h0
      have hA : s.A = [] := List.eq_nil_of_length_eq_zero (by omega)
      have hB : s.B = [] := List.eq_nil_of_length_eq_zero (by omega)
      unfold W
      rw [hA, hB]
      exact Nat.zero_le _
    · rename_i h0
      have hi : 0 < (if (decide (s.A.length = 0)) then s.B else s.A).length := by
        by_cases ha : s.A.length = 0
        · simp only [ha, decide_true, if_true]
          omega
        · simp only [ha, decide_false, Bool.false_eq_true, if_false]
          omega
      have h1 := comeS_W (k := decide (s.A.length = 0)) h hi
      have h2 := drain_W n (comeS_ok (k := decide (s.A.length = 0)) (i := 0) h)
      omega
end Pb
end Go.Proofs.Ytihhcalgjkkalaa
