/- WheelTwo's plain law. No program in sight. -/
import Derived.Test.YtlibhboibkajgaaWhDropP
namespace Go.Proofs.Ytlibhboibkajgaa
set_option linter.unusedVariables false
namespace Wh
theorem nodup_of_keys {l : List Al} (h : (l.map (·.k)).Nodup) : l.Nodup := by
  unfold List.Nodup at h ⊢
  rw [List.pairwise_map] at h
  exact h.imp (fun hne e => hne (by rw [e]))
/-- two ticks give what one gives -/
theorem tick_two_one {a b : List Al} (ha : Wok a) (hb : Wok b) (hm : ∀ x, x ∈ a ↔ x ∈ b) {f t : Int} (hft : f ≤ t) :
    (tickL (a.length + 1) a f).1 ++ (tickL ((tickL (a.length + 1) a f).2.length + 1) (tickL (a.length + 1) a f).2 t).1 = (tickL (b.length + 1) b t).1 ∧
    (tickL ((tickL (a.length + 1) a f).2.length + 1) (tickL (a.length + 1) a f).2 t).2.length = (tickL (b.length + 1) b t).2.length := by
  obtain ⟨p1, q1, r1, s1, w1⟩ := tick_law f _ _ ha (Nat.lt_succ_self _)
  obtain ⟨p2, q2, r2, s2, w2⟩ := tick_law t _ _ w1 (Nat.lt_succ_self _)
  obtain ⟨p3, q3, r3, s3, w3⟩ := tick_law t _ _ hb (Nat.lt_succ_self _)
  simp only [Nat.succ_eq_add_one] at *
  obtain ⟨x1, hx1⟩ : ∃ x, x = tickL (a.length + 1) a f := ⟨_, rfl⟩
  rw [← hx1] at p1 q1 r1 s1 w1 p2 q2 r2 s2 w2 ⊢
  obtain ⟨x2, hx2⟩ : ∃ x, x = tickL (x1.2.length + 1) x1.2 t := ⟨_, rfl⟩
  rw [← hx2] at p2 q2 r2 s2 w2 ⊢
  obtain ⟨x3, hx3⟩ : ∃ x, x = tickL (b.length + 1) b t := ⟨_, rfl⟩
  rw [← hx3] at p3 q3 r3 s3 w3 ⊢
  clear hx1 hx2 hx3
  have hab : a.Perm b := (List.perm_ext_iff_of_nodup (nodup_of_keys ha.dist) (nodup_of_keys hb.dist)).2 hm
  have e1 : (x1.1 ++ x2.1).Pairwise lt := by
    rw [List.pairwise_append]
    refine ⟨s1, s2, fun x hx y hy => ?_⟩
    have h1 := q1 x hx
    have h2 := r1 y (p2.mem_iff.1 (List.mem_append_left _ hy))
    exact Or.inl (by omega)
  have hmem : ∀ x, x ∈ x1.1 ++ x2.1 ↔ x ∈ x3.1 := by
    intro x
    rw [List.mem_append]
    constructor
    · intro hx
      have h1 : x ∈ a ∧ x.t ≤ t := by
        rcases hx with hx | hx
        · exact ⟨p1.mem_iff.1 (List.mem_append_left _ hx), by have := q1 x hx; omega⟩
        · exact ⟨p1.mem_iff.1 (List.mem_append_right _ (p2.mem_iff.1 (List.mem_append_left _ hx))), q2 x hx⟩
      have h2 := p3.mem_iff.2 ((hm x).1 h1.1)
      rcases List.mem_append.1 h2 with h3 | h3
      · exact h3
      · have := r3 x h3; omega
    · intro hx
      have h1 := p1.mem_iff.2 ((hm x).2 (p3.mem_iff.1 (List.mem_append_left _ hx)))
      rcases List.mem_append.1 h1 with h2 | h2
      · exact Or.inl h2
      · have h3 := p2.mem_iff.2 h2
        rcases List.mem_append.1 h3 with h4 | h4
        · exact Or.inr h4
        · have h5 := r2 x h4
          have h6 := q3 x hx
          omega
  have nd : ∀ {l : List Al}, l.Pairwise lt → l.Nodup := fun {l} h => h.imp (fun {x y} h1 e => by subst e; unfold lt at h1; omega)
  have e2 := sorted_eq e1 s3 ((List.perm_ext_iff_of_nodup (nd e1) (nd s3)).2 hmem)
  refine ⟨e2, ?_⟩
  have l1 := p1.length_eq
  have l2 := p2.length_eq
  have l3 := p3.length_eq
  have l4 := hab.length_eq
  have l5 := congrArg List.length e2
  rw [List.length_append] at l1 l2 l3 l5
  omega
theorem tick_len {l : List Al} (h : Wok l) (t : Int) : (tickL (l.length + 1) l t).1.length ≤ l.length := by
  obtain ⟨p, _⟩ := tick_law t _ _ h (Nat.lt_succ_self _)
  have := p.length_eq
  rw [List.length_append] at this
  simp only [Nat.succ_eq_add_one] at this
  omega
/-- the two wheels of WheelTwo: what they hold is the same -/
def anew (q : List Int) (N num : Nat) (v : Int) : List Al := if num < N then setL (fill q N) num v else fill q N
def anew2 (q : List Int) (N num : Nat) (v : Int) : List Al := if num < N then setL (setL (fill q N) num 70000) num v else fill q N
theorem anew_wok (q : List Int) (N num : Nat) (v : Int) : Wok (anew q N num v) := by
  unfold anew
  split
  · exact (fill_law q N).1.set _ _
  · exact (fill_law q N).1
theorem anew2_wok (q : List Int) (N num : Nat) (v : Int) : Wok (anew2 q N num v) := by
  unfold anew2
  split
  · exact ((fill_law q N).1.set _ _).set _ _
  · exact (fill_law q N).1
theorem anew_mem (q : List Int) (N num : Nat) (v : Int) (x : Al) : x ∈ anew2 q N num v ↔ x ∈ anew q N num v := by
  unfold anew anew2
  split
  · have h := (fill_law q N).1
    rw [mem_set (h.set _ _).dist, mem_set h.dist, mem_set h.dist]
    constructor
    · rintro (h1 | ⟨h1 | h1, h2⟩)
      · exact Or.inl h1
      · rw [h1] at h2; exact absurd rfl h2
      · exact Or.inr h1
    · rintro (h1 | h1)
      · exact Or.inl h1
      · exact Or.inr ⟨Or.inr h1, h1.2⟩
  · rfl
theorem fill_some {q : List Int} {N num : Nat} (h : num < N) : (place (fill q N) num).isSome :=
  place_of_mem (((fill_law q N).2.2 _).2 ⟨num, h, rfl⟩) rfl
theorem setR_some {l : List Al} {k t : Int} (hk : (place l k).isSome) (h0 : 0 ≤ k) (h1 : k ≤ 2147483647) (h2 : 0 < t) (h3 : t ≤ 1099511627776) : setR l 0 k t = (0, setL l k t) := by
  unfold setR
  rw [if_neg (by omega), if_neg (by omega), if_neg]
  rintro ⟨h4, _⟩
  cases hp : place l k with
  | none => rw [hp] at hk; cases hk
  | some i => rw [hp] at h4; cases h4
theorem set_isSome {l : List Al} (h : Wok l) (k t : Int) : (place (setL l k t) k).isSome :=
  place_of_mem ((mem_set h.dist ⟨k, t⟩).2 (Or.inl rfl)) rfl
end Wh
end Go.Proofs.Ytlibhboibkajgaa
