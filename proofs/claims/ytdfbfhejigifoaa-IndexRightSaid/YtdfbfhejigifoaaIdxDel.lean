/- Taking a key out of the table: what follows moves up; the same as taking each out and putting it anew. No program in sight. -/
import Derived.Test.YtdfbfhejigifoaaIdxPlain
namespace Go.Proofs.Ytdfbfhejigifoaa
set_option linter.unusedVariables false
namespace Idx
variable {l M : List Cell}
theorem dist_or (N a b : Nat) : (a ≤ b ∧ dist N a b = b - a) ∨ (b < a ∧ dist N a b = b + N - a) := by unfold dist; split <;> omega
theorem adv_or {N a : Nat} (ha : a < N) : (a + 1 < N ∧ adv N a 1 = a + 1) ∨ (a + 1 = N ∧ adv N a 1 = 0) := by rw [adv_one ha]; split <;> omega
structure DInv (l M : List Cell) (k : Key) (hole a e : Nat) : Prop where
  len : M.length = l.length
  size : size l.length = true
  hh : hole < l.length
  ha : a < l.length
  he : e < l.length
  hn : at' M hole = Cell.nil
  eu : (at' M e).u = false
  ene : e ≠ hole
  btw : 1 ≤ dist l.length hole a ∧ dist l.length hole a ≤ dist l.length hole e
  path : ∀ i, i < l.length → (at' M i).u = true → ∀ q, q < l.length → dist l.length (home l.length (at' M i).k) q < dist l.length (home l.length (at' M i).k) i →
    ((at' M q).u = true ∧ (at' M q).k ≠ (at' M i).k) ∨ (q = hole ∧ dist l.length hole a ≤ dist l.length hole i)
  uniq : ∀ i j, (at' M i).u = true → (at' M j).u = true → (at' M i).k = (at' M j).k → i = j
  wf : ∀ i, i < l.length → (at' M i).u = true → right (at' M i).k = true
  clean : ∀ i, i < l.length → (at' M i).u = false → at' M i = Cell.nil
  has : ∀ k' n', has M k' n' ↔ has l k' n' ∧ k' ≠ k
  many : many M + 1 = many l
theorem nil_u : Cell.nil.u = false := rfl
theorem del_start (h : Good l) {k : Key} {p : Nat} (hf : fnd l k = some p) (hu : (at' l p).u = true) : ∃ e, DInv l (l.set p Cell.nil) k p (adv l.length p 1) e := by
  obtain ⟨e, he, heu⟩ := empty_of_many h.room
  have hp := (ends_of_fnd hf).1
  have hne : e ≠ p := by rintro rfl; rw [hu] at heu; cases heu
  have hc := h.fnd_used hf hu
  have hA := adv_or hp
  have hd1 := dist_or l.length p (adv l.length p 1)
  have hd2 := dist_or l.length p e
  refine ⟨e, ?_⟩
  have hat : ∀ j, j ≠ p → at' (l.set p Cell.nil) j = at' l j := fun j hj => by rw [at_set hp, if_neg hj]
  have hatp : at' (l.set p Cell.nil) p = Cell.nil := by rw [at_set hp, if_pos rfl]
  have hne' : ∀ {i}, (at' (l.set p Cell.nil) i).u = true → i ≠ p := by
    intro i hi e'
    rw [e', hatp] at hi
    cases hi
  refine ⟨by simp, h.size, hp, by omega, he, hatp, by rw [hat e hne]; exact heu, hne, by omega, ?_, ?_, ?_, ?_, ?_, ?_⟩
  · intro i hi hiu q hq hlt
    have hip := hne' hiu
    rw [hat i hip] at hiu hlt ⊢
    have := h.path i hi hiu q hq hlt
    by_cases hqp : q = p
    · have := dist_or l.length p i
      exact .inr ⟨hqp, by omega⟩
    · rw [hat q hqp]; exact .inl this
  · intro i j hi hj hij
    have hi' := hne' hi
    have hj' := hne' hj
    rw [hat i hi'] at hi hij
    rw [hat j hj'] at hj hij
    exact h.uniq hi hj hij
  · intro i hi hiu
    have hi' := hne' hiu
    rw [hat i hi'] at hiu ⊢
    exact h.wf i hi hiu
  · intro i hi hiu
    by_cases hip : i = p
    · rw [hip]; exact hatp
    · rw [hat i hip] at hiu ⊢
      exact h.clean i hi hiu
  · intro k' n'
    constructor
    · rintro ⟨i, ei⟩
      have hip : i ≠ p := hne' (by rw [ei])
      rw [hat i hip] at ei
      refine ⟨⟨i, ei⟩, ?_⟩
      rintro rfl
      exact hip (h.uniq (by rw [ei]) hu (by rw [ei, hc]))
    · rintro ⟨⟨i, ei⟩, hk⟩
      refine ⟨i, ?_⟩
      rw [hat i]
      · exact ei
      · rintro rfl
        rw [hc] at ei
        injection ei with _ e1
        exact hk e1.symm
  · have := many_set (l := l) (c := Cell.nil) hp
    simp [hu, nil_u] at this
    omega
theorem del_end {k : Key} {hole a e : Nat} (h : DInv l M k hole a e) (hu : (at' M a).u = false) : Good M := by
  refine ⟨by rw [h.len]; exact h.size, ?_, ?_, ?_, ?_⟩
  · have : many l ≤ l.length := List.countP_le_length
    have := h.many
    rw [h.len]; omega
  · intro i hi hiu q hq hlt
    rw [h.len] at hi hq hlt
    rcases h.path i hi hiu q hq hlt with h1 | ⟨rfl, h2⟩
    · exact h1
    · exfalso
      have hia : i ≠ a := by rintro rfl; rw [hu] at hiu; cases hiu
      have hai := h.ha
      have hb := h.btw.1
      have hhl := home_lt (N := l.length) (by omega) (at' M i).k
      have d1 := dist_or l.length (home l.length (at' M i).k) q
      have d2 := dist_or l.length (home l.length (at' M i).k) i
      have d3 := dist_or l.length q a
      have d4 := dist_or l.length q i
      have d5 := dist_or l.length (home l.length (at' M i).k) a
      rcases h.path i hi hiu a h.ha (by omega) with h3 | ⟨h3, _⟩
      · rw [hu] at h3; cases h3.1
      · rw [h3] at hb; unfold dist at hb; simp at hb
  · intro i hi hiu; exact h.wf i (by rw [← h.len]; exact hi) hiu
  · intro i hi hiu; exact h.clean i (by rw [← h.len]; exact hi) hiu
theorem DInv.a_ne {k : Key} {hole a e : Nat} (h : DInv l M k hole a e) : a ≠ hole := by
  rintro rfl
  have := h.btw.1
  unfold dist at this; simp at this
theorem set_at {c : Cell} {i : Nat} (hi : i < M.length) (hc : at' M i = c) : M.set i c = M := by
  refine ext_at (by simp) fun j hj => ?_
  rw [at_set hi]
  split
  · rename_i e; rw [e, hc]
  · rfl
theorem del_move {k : Key} {hole a e : Nat} (h : DInv l M k hole a e) (hu : (at' M a).u = true) (hd : dist l.length hole a ≤ dist l.length (home l.length (at' M a).k) a) :
    fnd (M.set a Cell.nil) (at' M a).k = some hole ∧ DInv l ((M.set hole (at' M a)).set a Cell.nil) k a (adv l.length a 1) e := by
  have hae := h.a_ne
  have hha := h.ha
  have hhh := h.hh
  have hhe := h.he
  have hb := h.btw
  have hM : a < M.length := by rw [h.len]; exact h.ha
  have hMh : hole < M.length := by rw [h.len]; exact h.hh
  have hhl := home_lt (N := l.length) (by omega) (at' M a).k
  have hnea : e ≠ a := by rintro rfl; rw [h.eu] at hu; cases hu
  have hup : ∀ q, q < l.length → dist l.length (home l.length (at' M a).k) q < dist l.length (home l.length (at' M a).k) hole → (at' M q).u = true ∧ (at' M q).k ≠ (at' M a).k ∧ q ≠ a ∧ q ≠ hole := by
    intro q hq hlt
    have d1 := dist_or l.length (home l.length (at' M a).k) hole
    have d2 := dist_or l.length (home l.length (at' M a).k) a
    have d3 := dist_or l.length hole a
    have hqa : q ≠ a := by rintro rfl; omega
    have hqh : q ≠ hole := by rintro rfl; omega
    rcases h.path a h.ha hu q hq (by omega) with h1 | ⟨h1, _⟩
    · exact ⟨h1.1, h1.2, hqa, hqh⟩
    · exact absurd h1 hqh
  constructor
  · refine fnd_some ⟨by simpa using hMh, ?_, ?_⟩
    · rw [stop_true, at_set hM, if_neg (Ne.symm hae), h.hn]; exact .inl rfl
    · intro q hq hlt
      simp only [List.length_set, h.len] at hq hlt
      obtain ⟨h1, h2, h3, _⟩ := hup q hq hlt
      rw [stop_false, at_set hM, if_neg h3]
      exact ⟨h1, h2⟩
  · obtain ⟨c, hc⟩ : ∃ c, c = at' M a := ⟨_, rfl⟩
    rw [← hc] at hu hd hup ⊢
    have hl1 : ((M.set hole c).set a Cell.nil).length = l.length := by simp [h.len]
    have hat : ∀ j, at' ((M.set hole c).set a Cell.nil) j = if j = a then Cell.nil else if j = hole then c else at' M j := by
      intro j
      rw [at_set (by simpa using hM)]
      split
      · rfl
      · rw [at_set hMh]
    have hA := adv_or hha
    have e1 := dist_or l.length a (adv l.length a 1)
    have e2 := dist_or l.length a e
    refine ⟨hl1, h.size, h.ha, by omega, h.he, by rw [hat, if_pos rfl], by rw [hat, if_neg hnea, if_neg h.ene]; exact h.eu, hnea, by omega, ?_, ?_, ?_, ?_, ?_, ?_⟩
    · intro i hi hiu q hq hlt
      have hia : i ≠ a := by rintro rfl; rw [hat, if_pos rfl] at hiu; cases hiu
      have e3 := dist_or l.length a i
      by_cases hih : i = hole
      · subst hih
        have hi1 : at' ((M.set i c).set a Cell.nil) i = c := by rw [hat, if_neg hia, if_pos rfl]
        rw [hi1] at hlt ⊢
        obtain ⟨h1, h2, h3, h4⟩ := hup q hq hlt
        rw [hat, if_neg h3, if_neg h4]
        exact .inl ⟨h1, h2⟩
      · have hi1 : at' ((M.set hole c).set a Cell.nil) i = at' M i := by rw [hat, if_neg hia, if_neg hih]
        rw [hi1] at hlt hiu ⊢
        by_cases hqa : q = a
        · exact .inr ⟨hqa, by omega⟩
        · rw [hat, if_neg hqa]
          by_cases hqh : q = hole
          · rw [if_pos hqh]
            refine .inl ⟨hu, fun ek => hia ?_⟩
            exact (h.uniq a i (by rw [← hc]; exact hu) hiu (by rw [← hc]; exact ek)).symm
          · rw [if_neg hqh]
            rcases h.path i hi hiu q hq hlt with h1 | ⟨h1, _⟩
            · exact .inl h1
            · exact absurd h1 hqh
    · have key : ∀ i, (at' ((M.set hole c).set a Cell.nil) i).u = true → ∃ i', (at' M i').u = true ∧ (at' M i').k = (at' ((M.set hole c).set a Cell.nil) i).k ∧ ((i = hole ∧ i' = a) ∨ (i ≠ hole ∧ i' = i ∧ i ≠ a)) := by
        intro i hi
        have hia : i ≠ a := by rintro rfl; rw [hat, if_pos rfl] at hi; cases hi
        rw [hat, if_neg hia] at hi ⊢
        by_cases hih : i = hole
        · rw [if_pos hih] at hi ⊢
          exact ⟨a, by rw [← hc]; exact hi, by rw [← hc], .inl ⟨hih, rfl⟩⟩
        · rw [if_neg hih] at hi ⊢
          exact ⟨i, hi, rfl, .inr ⟨hih, rfl, hia⟩⟩
      intro i j hi hj hij
      obtain ⟨i', i1, i2, i3⟩ := key i hi
      obtain ⟨j', j1, j2, j3⟩ := key j hj
      have := h.uniq i' j' i1 j1 (by rw [i2, j2, hij])
      omega
    · intro i hi hiu
      rw [hat] at hiu ⊢
      by_cases hia : i = a
      · rw [if_pos hia] at hiu; cases hiu
      · rw [if_neg hia] at hiu ⊢
        by_cases hih : i = hole
        · rw [if_pos hih, hc]; exact h.wf a h.ha (by rw [← hc]; exact hu)
        · rw [if_neg hih] at hiu ⊢; exact h.wf i hi hiu
    · intro i hi hiu
      rw [hat] at hiu ⊢
      by_cases hia : i = a
      · rw [if_pos hia]
      · rw [if_neg hia] at hiu ⊢
        by_cases hih : i = hole
        · rw [if_pos hih, hu] at hiu; cases hiu
        · rw [if_neg hih] at hiu ⊢; exact h.clean i hi hiu
    · intro k' n'
      rw [← h.has k' n']
      constructor
      · rintro ⟨i, ei⟩
        rw [hat] at ei
        by_cases hia : i = a
        · rw [if_pos hia] at ei; cases ei
        · rw [if_neg hia] at ei
          by_cases hih : i = hole
          · rw [if_pos hih] at ei; exact ⟨a, by rw [← hc]; exact ei⟩
          · rw [if_neg hih] at ei; exact ⟨i, ei⟩
      · rintro ⟨i, ei⟩
        by_cases hia : i = a
        · refine ⟨hole, ?_⟩
          rw [hat, if_neg (Ne.symm hae), if_pos rfl, hc, ← hia]; exact ei
        · refine ⟨i, ?_⟩
          rw [hat, if_neg hia, if_neg]
          · exact ei
          · rintro rfl; rw [h.hn] at ei; cases ei
    · have m1 := many_set (l := M) (c := c) hMh
      have m2 := many_set (l := M.set hole c) (i := a) (c := Cell.nil) (by simpa using hM)
      rw [at_set hMh, if_neg hae, ← hc] at m2
      simp [h.hn, hu, nil_u] at m1 m2
      have := h.many
      omega
theorem del_stay {k : Key} {hole a e : Nat} (h : DInv l M k hole a e) (hu : (at' M a).u = true) (hd : dist l.length (home l.length (at' M a).k) a < dist l.length hole a) :
    fnd (M.set a Cell.nil) (at' M a).k = some a ∧ DInv l M k hole (adv l.length a 1) e := by
  have hae := h.a_ne
  have hha := h.ha
  have hhh := h.hh
  have hhe := h.he
  have hb := h.btw
  have hM : a < M.length := by rw [h.len]; exact h.ha
  have hhl := home_lt (N := l.length) (by omega) (at' M a).k
  have hnea : e ≠ a := by rintro rfl; rw [h.eu] at hu; cases hu
  have hup : ∀ q, q < l.length → dist l.length (home l.length (at' M a).k) q < dist l.length (home l.length (at' M a).k) a → (at' M q).u = true ∧ (at' M q).k ≠ (at' M a).k ∧ q ≠ a ∧ q ≠ hole := by
    intro q hq hlt
    have d1 := dist_or l.length (home l.length (at' M a).k) hole
    have d2 := dist_or l.length (home l.length (at' M a).k) a
    have d3 := dist_or l.length hole a
    have hqa : q ≠ a := by rintro rfl; omega
    have hqh : q ≠ hole := by rintro rfl; omega
    rcases h.path a h.ha hu q hq hlt with h1 | ⟨h1, _⟩
    · exact ⟨h1.1, h1.2, hqa, hqh⟩
    · exact absurd h1 hqh
  constructor
  · refine fnd_some ⟨by simpa using hM, ?_, ?_⟩
    · rw [stop_true, at_set hM, if_pos rfl]; exact .inl rfl
    · intro q hq hlt
      simp only [List.length_set, h.len] at hq hlt
      obtain ⟨h1, h2, h3, _⟩ := hup q hq hlt
      rw [stop_false, at_set hM, if_neg h3]
      exact ⟨h1, h2⟩
  · have hA := adv_or hha
    have e1 := dist_or l.length hole a
    have e2 := dist_or l.length hole (adv l.length a 1)
    have e3 := dist_or l.length hole e
    refine ⟨h.len, h.size, h.hh, by omega, h.he, h.hn, h.eu, h.ene, by omega, ?_, h.uniq, h.wf, h.clean, h.has, h.many⟩
    intro i hi hiu q hq hlt
    by_cases hia : i = a
    · subst hia
      obtain ⟨h1, h2, _, _⟩ := hup q hq hlt
      exact .inl ⟨h1, h2⟩
    · rcases h.path i hi hiu q hq hlt with h1 | ⟨h1, h2⟩
      · exact .inl h1
      · have e4 := dist_or l.length hole i
        exact .inr ⟨h1, by omega⟩
def DelR (l R : List Cell) (k : Key) : Prop := Good R ∧ (∀ k' n', has R k' n' ↔ has l k' n' ∧ k' ≠ k) ∧ many R + 1 = many l ∧ R.length = l.length
theorem del_loop {k : Key} {e : Nat} : ∀ (f : Nat) (out M : List Cell) (hole a : Nat), DInv l M k hole a e → out.length = l.length → out.set hole Cell.nil = M → dist l.length a e < f →
    delLoop f out hole a = rdelLoop f M a ∧ DelR l (rdelLoop f M a) k
  | 0, _, _, _, _, _, _, _, h => by omega
  | f + 1, out, M, hole, a, h, hl, hM, hf => by
    have hae := h.a_ne
    have hha := h.ha
    have hhh := h.hh
    have hhe := h.he
    have hb := h.btw
    have hoM : at' out a = at' M a := by rw [← hM, at_set (by omega), if_neg hae]
    unfold delLoop rdelLoop
    rw [hoM]
    cases hu : (at' M a).u
    · simp only [Bool.false_eq_true, if_false]
      exact ⟨hM, del_end h hu, h.has, h.many, h.len⟩
    · simp only [if_true]
      rw [hl, h.len]
      have hnea : e ≠ a := by rintro rfl; rw [h.eu] at hu; cases hu
      have hA := adv_or hha
      have e1 := dist_or l.length (adv l.length a 1) e
      have e2 := dist_or l.length a e
      by_cases hd : dist l.length hole a ≤ dist l.length (home l.length (at' M a).k) a
      · rw [if_pos hd]
        obtain ⟨h1, h2⟩ := del_move h hu hd
        rw [h1]
        have e3 : (M.set a Cell.nil).set ((some hole).getD 0) (at' M a) = (M.set hole (at' M a)).set a Cell.nil := by
          simp only [Option.getD_some]
          rw [List.set_comm _ _ hae]
        rw [e3]
        refine del_loop f _ _ _ _ h2 (by simpa using hl) ?_ (by omega)
        rw [← hM]
        rw [List.set_set]
      · rw [if_neg hd]
        obtain ⟨h1, h2⟩ := del_stay h hu (by omega)
        rw [h1]
        have e3 : (M.set a Cell.nil).set ((some a).getD 0) (at' M a) = M := by
          simp only [Option.getD_some, List.set_set]
          exact set_at (by rw [h.len]; exact hha) rfl
        rw [e3]
        exact del_loop f _ _ _ _ h2 hl hM (by omega)
/-- both ways of taking out are the same -/
theorem del_eq (h : Good l) {k : Key} {p : Nat} (hf : fnd l k = some p) (hu : (at' l p).u = true) :
    delLoop l.length l p (adv l.length p 1) = rdelLoop l.length (l.set p Cell.nil) (adv l.length p 1) ∧ DelR l (rdelLoop l.length (l.set p Cell.nil) (adv l.length p 1)) k := by
  obtain ⟨e, hD⟩ := del_start h hf hu
  exact del_loop l.length l _ _ _ hD rfl rfl (dist_lt hD.ha hD.he)
/-- put, and taken out at once -/
theorem del_put_loop (h : Good l) {p e : Nat} {c : Cell} (hp : p < l.length) (hu : (at' l p).u = false) (he : e < l.length) (heu : (at' l e).u = false) (hne : e ≠ p) :
    ∀ (f : Nat) (a : Nat), a < l.length → 1 ≤ dist l.length p a → dist l.length p a ≤ dist l.length p e → dist l.length a e < f → delLoop f (l.set p c) p a = (l.set p c).set p Cell.nil
  | 0, _, _, _, _, hf => by omega
  | f + 1, a, ha, h1, h2, hf => by
    have hap : a ≠ p := by rintro rfl; unfold dist at h1; simp at h1
    unfold delLoop
    rw [at_set hp, if_neg hap]
    cases hau : (at' l a).u
    · simp
    · simp only [if_true, List.length_set]
      have hea : a ≠ e := by rintro rfl; rw [hau] at heu; cases heu
      have hhl := home_lt (N := l.length) (by omega) (at' l a).k
      have d1 := dist_or l.length (home l.length (at' l a).k) p
      have d2 := dist_or l.length (home l.length (at' l a).k) a
      have d3 := dist_or l.length p a
      rw [if_neg]
      · have hA := adv_or ha
        have e1 := dist_or l.length (adv l.length a 1) e
        have e2 := dist_or l.length a e
        have e3 := dist_or l.length p e
        have e4 := dist_or l.length p (adv l.length a 1)
        exact del_put_loop h hp hu he heu hne f _ (by omega) (by omega) (by omega) (by omega)
      · intro hle
        have := h.path a ha hau p hp (by omega)
        rw [hu] at this
        cases this.1
theorem del_put (h : Good l) {k : Key} {n : Int} {p : Nat} (hk : right k = true) (hf : fnd l k = some p) (hu : (at' l p).u = false) (hm : many l + 1 < l.length) :
    del (l.set p ⟨true, k, n⟩) k = (l, 0) := by
  have hp := (ends_of_fnd hf).1
  have hg := put_good (n := n) h hk hf hu hm
  have hf' : fnd (l.set p ⟨true, k, n⟩) k = some p := hg.fnd_has (n := n) (by rw [at_set hp, if_pos rfl])
  unfold del
  rw [right_iff.2 hg, hf']
  simp only [Bool.not_true, Bool.false_eq_true, if_false, at_set hp, if_true, List.length_set]
  obtain ⟨e, he, heu⟩ := empty_of_many (l := l.set p ⟨true, k, n⟩) hg.room
  rw [List.length_set] at he
  have hep : e ≠ p := by rintro rfl; rw [at_set hp, if_pos rfl] at heu; cases heu
  rw [at_set hp, if_neg hep] at heu
  have hA := adv_or hp
  have d1 := dist_or l.length p (adv l.length p 1)
  have d2 := dist_or l.length p e
  rw [del_put_loop h hp hu he heu hep l.length _ (by omega) (by omega) (by omega) (dist_lt (by omega) he), List.set_set, set_at hp (h.clean p hp hu)]
end Idx
end Go.Proofs.Ytdfbfhejigifoaa
