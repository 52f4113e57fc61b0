/- The wheel over lists: what is in it, and what a tick gives. No program in sight. -/
import Derived.Test.YtlibhboibkajgaaWheelPlain
namespace Go.Proofs.Ytlibhboibkajgaa
set_option linter.unusedVariables false
namespace Wh
variable {l : List Al}
theorem lt_total {x y : Al} (h : x.k ≠ y.k) (h' : ¬ lt y x) : lt x y := by unfold lt at *; omega
theorem lt_trans {x y z : Al} (h : lt x y) (h' : lt y z) : lt x z := by unfold lt at *; omega
theorem mem_al {x : Al} (hx : x ∈ l) : ∃ i, i < l.length ∧ al l i = x := by
  obtain ⟨i, hi, rfl⟩ := List.mem_iff_getElem.1 hx
  exact ⟨i, hi, al_lt hi⟩
theorem al_mem {i : Nat} (hi : i < l.length) : al l i ∈ l := by rw [al_lt hi]; exact List.getElem_mem hi
theorem key_inj {x y : Al} (h : (l.map (·.k)).Nodup) (hx : x ∈ l) (hy : y ∈ l) (e : x.k = y.k) : x = y := by
  obtain ⟨i, hi, rfl⟩ := mem_al hx
  obtain ⟨j, hj, rfl⟩ := mem_al hy
  rw [nodup_at h hi hj e]
theorem Wok.rem {i : Nat} (h : Wok l) (hi : i < l.length) : Wok (remL l i) := by
  refine ⟨by rw [rem_len hi]; exact rem_heap hi h.heap, ?_⟩
  have h1 : ((remL l i ++ [al l i]).map (·.k)).Nodup := Wok.perm h.dist (rem_perm hi)
  rw [List.map_append] at h1
  exact (List.nodup_append.1 h1).1
theorem mem_rem {i : Nat} (h : (l.map (·.k)).Nodup) (hi : i < l.length) (x : Al) : x ∈ remL l i ↔ x ∈ l ∧ x.k ≠ (al l i).k := by
  have hp := rem_perm hi
  have h1 : ((remL l i ++ [al l i]).map (·.k)).Nodup := Wok.perm h hp
  rw [List.map_append, List.nodup_append] at h1
  constructor
  · intro hx
    exact ⟨hp.mem_iff.1 (List.mem_append_left _ hx), h1.2.2 _ (List.mem_map_of_mem hx) _ (by simp)⟩
  · rintro ⟨hx, hk⟩
    rcases List.mem_append.1 (hp.mem_iff.2 hx) with h2 | h2
    · exact h2
    · rw [List.mem_singleton] at h2
      exact absurd (by rw [h2]) hk
theorem tick_law (t : Int) : ∀ (f : Nat) (l : List Al), Wok l → l.length < f →
    ((tickL f l t).1 ++ (tickL f l t).2).Perm l ∧ (∀ x ∈ (tickL f l t).1, x.t ≤ t) ∧ (∀ x ∈ (tickL f l t).2, t < x.t) ∧ (tickL f l t).1.Pairwise lt ∧ Wok (tickL f l t).2 := by
  intro f
  induction f with
  | zero => intro l _ h; omega
  | succ f ih =>
    intro l h hl
    unfold tickL
    by_cases hc : 0 < l.length ∧ (al l 0).t ≤ t
    · rw [if_pos hc]
      obtain ⟨hc1, hc2⟩ := hc
      obtain ⟨p, a, b, c, d⟩ := ih (remL l 0) (h.rem hc1) (by rw [rem_len hc1]; omega)
      simp only
      have hp := rem_perm hc1
      refine ⟨?_, ?_, b, ?_, d⟩
      · refine List.Perm.trans ?_ hp
        exact (List.Perm.cons _ p).trans (List.perm_append_singleton (al l 0) (remL l 0)).symm
      · intro x hx
        rcases List.mem_cons.1 hx with rfl | hx
        · exact hc2
        · exact a x hx
      · refine List.pairwise_cons.2 ⟨fun y hy => ?_, c⟩
        have hy2 : y ∈ remL l 0 := p.mem_iff.1 (List.mem_append_left _ hy)
        obtain ⟨hy3, hy4⟩ := (mem_rem h.dist hc1 y).1 hy2
        obtain ⟨i, hi, rfl⟩ := mem_al hy3
        exact lt_total (fun e => hy4 e.symm) (heap_min h.heap i hi)
    · rw [if_neg hc]
      simp only
      refine ⟨List.Perm.refl _, by simp, fun x hx => ?_, List.Pairwise.nil, h⟩
      obtain ⟨i, hi, rfl⟩ := mem_al hx
      have h1 := heap_min h.heap i hi
      unfold lt at h1
      omega
theorem sorted_eq : ∀ {a b : List Al}, a.Pairwise lt → b.Pairwise lt → a.Perm b → a = b
  | [], b, _, _, hp => (List.nil_perm.1 hp).symm
  | x :: a, b, ha, hb, hp => by
    cases b with
    | nil => exact absurd (List.perm_nil.1 hp) (by simp)
    | cons y b =>
      rw [List.pairwise_cons] at ha hb
      have e : x = y := by
        rcases List.mem_cons.1 (hp.mem_iff.1 (List.mem_cons_self)) with h | h
        · exact h
        · rcases List.mem_cons.1 (hp.mem_iff.2 (List.mem_cons_self (a := y) (l := b))) with h' | h'
          · exact h'.symm
          · exact absurd (hb.1 x h) (lt_asymm (ha.1 y h'))
      subst e
      rw [sorted_eq ha.2 hb.2 (List.Perm.cons_inv hp)]
theorem set_perm {k t : Int} {i : Nat} (hk : place l k = some i) : (setL l k t).Perm (l.set i ⟨k, t⟩) := by
  unfold setL
  rw [hk]
  exact fix_perm (by simpa using (place_some hk).1)
theorem new_perm {k t : Int} (hk : place l k = none) : (setL l k t).Perm (l ++ [⟨k, t⟩]) := by
  unfold setL
  rw [hk]
  exact push_perm l _
theorem set_len {k t : Int} : (setL l k t).length = if (place l k).isSome then l.length else l.length + 1 := by
  unfold setL
  cases hk : place l k with
  | none => simp [push_len]
  | some i => simp [fix_len]
theorem keys_set {k t : Int} {i : Nat} (hk : place l k = some i) : (l.set i ⟨k, t⟩).map (·.k) = l.map (·.k) := by
  obtain ⟨hi, h2⟩ := place_some hk
  rw [List.map_set]
  have : (l.map (·.k))[i]'(by simpa using hi) = k := by rw [← h2, al_lt hi]; simp
  conv => lhs; rw [← this]
  rw [List.set_getElem_self]
theorem Wok.set (h : Wok l) (k t : Int) : Wok (setL l k t) := by
  cases hk : place l k with
  | some i =>
    obtain ⟨hi, h2⟩ := place_some hk
    refine ⟨?_, Wok.perm (by rw [keys_set hk]; exact h.dist) (set_perm hk)⟩
    have e : setL l k t = fixL (l.set i ⟨k, t⟩) i := by unfold setL; rw [hk]
    rw [e, fix_len]
    refine fix_heap (by simpa using hi) ?_
    rw [List.length_set]
    exact set_inv h.heap hi
  | none =>
    have e : setL l k t = pushL l ⟨k, t⟩ := by unfold setL; rw [hk]
    refine ⟨by rw [e, push_len]; exact push_heap h.heap _, Wok.perm ?_ (new_perm hk)⟩
    rw [List.map_append, List.nodup_append]
    refine ⟨h.dist, by simp, fun a ha b hb => ?_⟩
    obtain ⟨y, hy, rfl⟩ := List.mem_map.1 ha
    simp only [List.map_cons, List.map_nil, List.mem_singleton] at hb
    subst hb
    exact place_none hk y hy
theorem mem_set (h : (l.map (·.k)).Nodup) {k t : Int} (x : Al) : x ∈ setL l k t ↔ x = ⟨k, t⟩ ∨ (x ∈ l ∧ x.k ≠ k) := by
  cases hk : place l k with
  | none =>
    rw [(new_perm hk).mem_iff, List.mem_append, List.mem_singleton]
    constructor
    · rintro (hx | hx)
      · exact Or.inr ⟨hx, place_none hk x hx⟩
      · exact Or.inl hx
    · rintro (hx | hx)
      · exact Or.inr hx
      · exact Or.inl hx.1
  | some i =>
    obtain ⟨hi, h2⟩ := place_some hk
    rw [(set_perm hk).mem_iff]
    constructor
    · intro hx
      obtain ⟨j, hj, rfl⟩ := List.mem_iff_getElem.1 hx
      rw [List.length_set] at hj
      rw [List.getElem_set]
      split
      · exact Or.inl rfl
      · rename_i hne
        refine Or.inr ⟨List.getElem_mem hj, fun e => hne ?_⟩
        rw [← al_lt hj] at e
        exact nodup_at h hi hj (by rw [h2, e])
    · rintro (rfl | ⟨hx, hne⟩)
      · exact List.mem_iff_getElem.2 ⟨i, by simpa using hi, by simp⟩
      · obtain ⟨j, hj, rfl⟩ := List.mem_iff_getElem.1 hx
        refine List.mem_iff_getElem.2 ⟨j, by simpa using hj, ?_⟩
        rw [List.getElem_set, if_neg]
        intro e
        subst e
        rw [← al_lt hj, h2] at hne
        exact hne rfl
theorem Wok.nil : Wok ([] : List Al) := ⟨fun i h0 hi => absurd hi (by simp), by simp⟩
end Wh
end Go.Proofs.Ytlibhboibkajgaa
