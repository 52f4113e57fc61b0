/- The reference's wheel over lists: what its Set, Drop and Tick leave, beside the heap. No program in sight. -/
import Derived.Test.YtlibhboibkajgaaWhTwoP
namespace Go.Proofs.Ytlibhboibkajgaa
set_option linter.unusedVariables false
namespace Wh
/-- the reference's list without a place -/
def cut (l : List Al) (i : Nat) : List Al := l.take i ++ l.drop (i + 1)
theorem cut_len {l : List Al} {i : Nat} (h : i < l.length) : (cut l i).length = l.length - 1 := by unfold cut; simp; omega
theorem cut_perm {l : List Al} {i : Nat} (h : i < l.length) : (cut l i ++ [al l i]).Perm l := by
  have e : l = l.take i ++ (al l i :: l.drop (i + 1)) := by rw [al_lt h]; simp
  unfold cut
  conv => rhs; rw [e]
  rw [List.append_assoc]
  exact (List.perm_append_singleton _ _).append_left _
theorem cut_nodup {l : List Al} {i : Nat} (hd : (l.map (·.k)).Nodup) (h : i < l.length) : ((cut l i).map (·.k)).Nodup := by
  have h1 : ((cut l i ++ [al l i]).map (·.k)).Nodup := Wok.perm hd (cut_perm h)
  rw [List.map_append] at h1
  exact (List.nodup_append.1 h1).1
theorem mem_cut {l : List Al} {i : Nat} (hd : (l.map (·.k)).Nodup) (h : i < l.length) (x : Al) : x ∈ cut l i ↔ x ∈ l ∧ x.k ≠ (al l i).k := by
  have hp := cut_perm h
  have h1 : ((cut l i ++ [al l i]).map (·.k)).Nodup := Wok.perm hd hp
  rw [List.map_append, List.nodup_append] at h1
  constructor
  · intro hx
    exact ⟨hp.mem_iff.1 (List.mem_append_left _ hx), h1.2.2 _ (List.mem_map_of_mem hx) _ (by simp)⟩
  · rintro ⟨hx, hk⟩
    rcases List.mem_append.1 (hp.mem_iff.2 hx) with h2 | h2
    · exact h2
    · rw [List.mem_singleton] at h2
      exact absurd (by rw [h2]) hk
/-- the reference's Drop -/
def rdrop (l : List Al) (k : Int) : Int × List Al := match place l k with | some i => (0, cut l i) | none => (9, l)
/-- the reference's Set -/
def rput (l : List Al) (k t : Int) : List Al := (match place l k with | some i => cut l i | none => l) ++ [⟨k, t⟩]
def rset (l : List Al) (now k t : Int) : Int × List Al :=
  if ¬ (0 ≤ k ∧ k ≤ 2147483647 ∧ 0 ≤ t ∧ t ≤ 1099511627776) then (1, l) else if t ≤ now then (14, l) else if (place l k).isNone ∧ l.length = 256 then (8, l) else (0, rput l k t)
/-- what the reference holds beside the heap -/
structure Twin (l r : List Al) : Prop where
  ok : Wok l
  dist : (r.map (·.k)).Nodup
  perm : r.Perm l
theorem Twin.len {l r : List Al} (h : Twin l r) : r.length = l.length := h.perm.length_eq
theorem Twin.nil : Twin [] [] := ⟨Wok.nil, by simp, List.Perm.refl _⟩
theorem perm_of_mem {l r : List Al} (h1 : (l.map (·.k)).Nodup) (h2 : (r.map (·.k)).Nodup) (h : ∀ x, x ∈ r ↔ x ∈ l) : r.Perm l :=
  (List.perm_ext_iff_of_nodup (nodup_of_keys h2) (nodup_of_keys h1)).2 h
/-- an alarm of a number, in both -/
theorem Twin.place {l r : List Al} (h : Twin l r) (k : Int) : (place l k = none ∧ place r k = none) ∨ ∃ i j, place l k = some i ∧ place r k = some j ∧ al l i = al r j := by
  cases hr : Wh.place r k with
  | none =>
    left
    refine ⟨?_, rfl⟩
    cases hl : Wh.place l k with
    | none => rfl
    | some i =>
      obtain ⟨h1, h2⟩ := place_some hl
      exact absurd h2 (place_none hr _ (h.perm.mem_iff.2 (al_mem h1)))
  | some j =>
    right
    obtain ⟨h1, h2⟩ := place_some hr
    have h3 := h.perm.mem_iff.1 (al_mem h1)
    have h4 := place_of_mem h3 h2
    cases hl : Wh.place l k with
    | none => rw [hl] at h4; cases h4
    | some i =>
      obtain ⟨h5, h6⟩ := place_some hl
      exact ⟨i, j, rfl, rfl, key_inj h.ok.dist (al_mem h5) h3 (by rw [h6, h2])⟩
theorem Twin.set {l r : List Al} (h : Twin l r) (now k t : Int) : (setR l now k t).1 = (rset r now k t).1 ∧ Twin (setR l now k t).2 (rset r now k t).2 := by
  unfold setR rset
  rw [h.len]
  have hn : (Wh.place l k).isNone = (Wh.place r k).isNone := by
    rcases h.place k with ⟨h1, h2⟩ | ⟨i, j, h1, h2, _⟩
    · rw [h1, h2]
    · rw [h1, h2]; rfl
  rw [hn]
  split
  · exact ⟨rfl, h⟩
  · split
    · exact ⟨rfl, h⟩
    · split
      · exact ⟨rfl, h⟩
      · refine ⟨rfl, h.ok.set k t, ?_, ?_⟩
        all_goals
          have hd2 : ((rput r k t).map (·.k)).Nodup := by
            unfold rput
            rw [List.map_append, List.nodup_append]
            cases hr : Wh.place r k with
            | none =>
              simp only
              refine ⟨h.dist, by simp, fun a ha b hb => ?_⟩
              obtain ⟨y, hy, rfl⟩ := List.mem_map.1 ha
              simp only [List.map_cons, List.map_nil, List.mem_singleton] at hb
              subst hb
              exact place_none hr y hy
            | some j =>
              obtain ⟨hj, hk⟩ := place_some hr
              simp only
              refine ⟨cut_nodup h.dist hj, by simp, fun a ha b hb => ?_⟩
              obtain ⟨y, hy, rfl⟩ := List.mem_map.1 ha
              simp only [List.map_cons, List.map_nil, List.mem_singleton] at hb
              subst hb
              rw [← hk]
              exact ((mem_cut h.dist hj y).1 hy).2
        · exact hd2
        · refine perm_of_mem (h.ok.set k t).dist hd2 (fun x => ?_)
          rw [mem_set h.ok.dist]
          unfold rput
          rw [List.mem_append, List.mem_singleton]
          cases hr : Wh.place r k with
          | none =>
            simp only
            constructor
            · rintro (h1 | h1)
              · exact Or.inr ⟨h.perm.mem_iff.1 h1, place_none hr x h1⟩
              · exact Or.inl h1
            · rintro (h1 | h1)
              · exact Or.inr h1
              · exact Or.inl (h.perm.mem_iff.2 h1.1)
          | some j =>
            obtain ⟨hj, hk⟩ := place_some hr
            simp only
            rw [mem_cut h.dist hj, hk]
            constructor
            · rintro (h1 | h1)
              · exact Or.inr ⟨h.perm.mem_iff.1 h1.1, h1.2⟩
              · exact Or.inl h1
            · rintro (h1 | h1)
              · exact Or.inr h1
              · exact Or.inl ⟨h.perm.mem_iff.2 h1.1, h1.2⟩
/-- what the program's Drop answers -/
def dropE (l : List Al) (k : Int) : Int := match Wh.place l k with | some _ => 0 | none => 9
theorem Twin.drop {l r : List Al} (h : Twin l r) (k : Int) : dropE l k = (rdrop r k).1 ∧ Twin (dropAt l k) (rdrop r k).2 := by
  unfold rdrop dropE dropAt
  rcases h.place k with ⟨h1, h2⟩ | ⟨i, j, h1, h2, h3⟩
  · rw [h1, h2]
    exact ⟨rfl, h⟩
  · rw [h1, h2]
    obtain ⟨hi, hk⟩ := place_some h1
    obtain ⟨hj, hk2⟩ := place_some h2
    refine ⟨rfl, h.ok.rem hi, cut_nodup h.dist hj, perm_of_mem (h.ok.rem hi).dist (cut_nodup h.dist hj) (fun x => ?_)⟩
    rw [mem_cut h.dist hj, mem_rem h.ok.dist hi, hk, hk2, h.perm.mem_iff]
/-- the reference's tick: what is due, o, and what stays, r' -/
structure RTick (r : List Al) (t : Int) (o r' : List Al) : Prop where
  dist : (r'.map (·.k)).Nodup
  perm : (o ++ r').Perm r
  due : ∀ x ∈ o, x.t ≤ t
  sort : o.Pairwise lt
  low : ∀ x ∈ o, ∀ y ∈ r', lt x y
/-- the best place so far -/
def Best (r : List Al) (t : Int) (i : Nat) (b : Int) : Prop :=
  (b = -1 ∧ ∀ j, j < i → t < (al r j).t) ∨ ∃ p : Nat, b = p ∧ p < i ∧ (al r p).t ≤ t ∧ ∀ j, j < i → (al r j).t ≤ t → ¬ lt (al r j) (al r p)
theorem Best.start (r : List Al) (t : Int) : Best r t 0 (-1) := Or.inl ⟨rfl, fun j h => absurd h (by omega)⟩
theorem RTick.start {r : List Al} (h : (r.map (·.k)).Nodup) (t : Int) : RTick r t [] r := ⟨h, List.Perm.refl _, by simp, List.Pairwise.nil, by simp⟩
theorem RTick.step {r o r' : List Al} {t : Int} (h : RTick r t o r') {p : Nat} (hp : p < r'.length) (ht : (al r' p).t ≤ t) (hb : ∀ j, j < r'.length → (al r' j).t ≤ t → ¬ lt (al r' j) (al r' p)) : RTick r t (o ++ [al r' p]) (cut r' p) := by
  refine ⟨cut_nodup h.dist hp, ?_, ?_, ?_, ?_⟩
  · rw [List.append_assoc]
    refine List.Perm.trans ?_ h.perm
    refine List.Perm.append_left _ ?_
    exact (List.perm_append_comm).trans (cut_perm hp)
  · intro x hx
    rcases List.mem_append.1 hx with h1 | h1
    · exact h.due x h1
    · rw [List.mem_singleton] at h1; rw [h1]; exact ht
  · rw [List.pairwise_append]
    refine ⟨h.sort, List.pairwise_singleton _ _, fun x hx y hy => ?_⟩
    rw [List.mem_singleton] at hy
    rw [hy]
    exact h.low x hx _ (al_mem hp)
  · intro x hx y hy
    obtain ⟨hy1, hy2⟩ := (mem_cut h.dist hp y).1 hy
    rcases List.mem_append.1 hx with h1 | h1
    · exact h.low x h1 y hy1
    · rw [List.mem_singleton] at h1
      rw [h1]
      by_cases hyt : y.t ≤ t
      · obtain ⟨j, hj, rfl⟩ := mem_al hy1
        exact lt_total (fun e => hy2 e.symm) (hb j hj hyt) 
      · exact Or.inl (by omega)
theorem RTick.same {l r o r' : List Al} {t : Int} (h : Twin l r) (hr : RTick r t o r') (hs : ∀ j, j < r'.length → t < (al r' j).t) :
    o = (tickL (l.length + 1) l t).1 ∧ Twin (tickL (l.length + 1) l t).2 r' := by
  obtain ⟨p1, q1, r1, s1, w1⟩ := tick_law t _ _ h.ok (Nat.lt_succ_self _)
  simp only [Nat.succ_eq_add_one] at *
  obtain ⟨x, hx⟩ : ∃ x, x = tickL (l.length + 1) l t := ⟨_, rfl⟩
  rw [← hx] at p1 q1 r1 s1 w1 ⊢
  have hr' : ∀ y ∈ r', t < y.t := by
    intro y hy
    obtain ⟨j, hj, rfl⟩ := mem_al hy
    exact hs j hj
  have hp : (o ++ r').Perm (x.1 ++ x.2) := (hr.perm.trans h.perm).trans p1.symm
  have hm1 : ∀ y, y ∈ o ↔ y ∈ x.1 := by
    intro y
    constructor
    · intro hy
      rcases List.mem_append.1 (hp.mem_iff.1 (List.mem_append_left _ hy)) with h1 | h1
      · exact h1
      · have := r1 y h1; have := hr.due y hy; omega
    · intro hy
      rcases List.mem_append.1 (hp.mem_iff.2 (List.mem_append_left _ hy)) with h1 | h1
      · exact h1
      · have := hr' y h1; have := q1 y hy; omega
  have nd : ∀ {l : List Al}, l.Pairwise lt → l.Nodup := fun {l} h => h.imp (fun {x y} h1 e => by subst e; unfold lt at h1; omega)
  have e := sorted_eq hr.sort s1 ((List.perm_ext_iff_of_nodup (nd hr.sort) (nd s1)).2 hm1)
  refine ⟨e, w1, hr.dist, perm_of_mem w1.dist hr.dist (fun y => ?_)⟩
  constructor
  · intro hy
    rcases List.mem_append.1 (hp.mem_iff.1 (List.mem_append_right _ hy)) with h1 | h1
    · have := hr' y hy; have := q1 y h1; omega
    · exact h1
  · intro hy
    rcases List.mem_append.1 (hp.mem_iff.2 (List.mem_append_right _ hy)) with h1 | h1
    · have := r1 y hy; have := hr.due y h1; omega
    · exact h1
/-- a step of the search -/
theorem Best.skip {r : List Al} {t : Int} {i : Nat} {b : Int} (h : Best r t i b) (hx : t < (al r i).t ∨ ∃ p : Nat, b = p ∧ ¬ lt (al r i) (al r p)) : Best r t (i + 1) b := by
  rcases h with ⟨h1, h2⟩ | ⟨p, h1, h2, h3, h4⟩
  · refine Or.inl ⟨h1, fun j hj => ?_⟩
    by_cases e : j = i
    · subst e
      rcases hx with hx | ⟨p, hp, _⟩
      · exact hx
      · omega
    · exact h2 j (by omega)
  · refine Or.inr ⟨p, h1, by omega, h3, fun j hj ht => ?_⟩
    by_cases e : j = i
    · subst e
      rcases hx with hx | ⟨q, hq, hl⟩
      · omega
      · obtain rfl : q = p := by omega
        exact hl
    · exact h4 j (by omega) ht
theorem Best.take {r : List Al} {t : Int} {i : Nat} {b : Int} (h : Best r t i b) (ht : (al r i).t ≤ t) (hx : b = -1 ∨ ∃ p : Nat, b = p ∧ lt (al r i) (al r p)) : Best r t (i + 1) i := by
  refine Or.inr ⟨i, rfl, by omega, ht, fun j hj hjt => ?_⟩
  by_cases e : j = i
  · rw [e]; exact lt_irrefl _
  · rcases h with ⟨h1, h2⟩ | ⟨p, h1, h2, h3, h4⟩
    · have := h2 j (by omega); omega
    · rcases hx with hx | ⟨q, hq, hl⟩
      · omega
      · obtain rfl : q = p := by omega
        intro hlt
        exact h4 j (by omega) hjt (lt_trans hlt hl)
end Wh
end Go.Proofs.Ytlibhboibkajgaa
