/- A table beside the list of what was put and not taken out. No program in sight. -/
import Derived.Test.YtdfbfhejigifoaaIdxFacts
namespace Go.Proofs.Ytdfbfhejigifoaa
set_option linter.unusedVariables false
namespace Idx
structure MSt (N : Nat) (T hv : List Cell) : Prop where
  good : Good T
  len : T.length = N
  has : ∀ k v, has T k v ↔ ∃ c ∈ hv, c.k = k ∧ c.n = v
  many : many T = hv.length
  dist : hv.Pairwise (fun a b => a.k ≠ b.k)
theorem MSt.new {N : Nat} (h : size N = true) : MSt N (List.replicate N Cell.nil) [] :=
  ⟨good_new h, by simp, fun k v => ⟨fun hh => absurd hh has_new, fun ⟨c, hc, _⟩ => by simp at hc⟩, many_rep N, List.Pairwise.nil⟩
variable {N : Nat} {T hv : List Cell}
theorem at_mem {i : Nat} (h : i < hv.length) : at' hv i ∈ hv := by rw [at_lt h]; exact List.getElem_mem h
theorem mem_at {c : Cell} (h : c ∈ hv) : ∃ i, i < hv.length ∧ at' hv i = c := by
  obtain ⟨i, hi, e⟩ := List.getElem_of_mem h
  exact ⟨i, hi, by rw [at_lt hi, e]⟩
theorem MSt.put_new (h : MSt N T hv) {x : Cell} (hno : ∀ i, i < hv.length → (at' hv i).k ≠ x.k) :
    (∃ R, put T x.k x.n = (R, 0) ∧ MSt N R (hv ++ [x])) ∨ ∃ e, put T x.k x.n = (T, e) ∧ e ≠ 0 ∧ e ≠ 10 := by
  have hno' : ∀ v, ¬ Idx.has T x.k v := by
    intro v hh
    obtain ⟨c, hc, e1, e2⟩ := (h.has _ _).1 hh
    obtain ⟨i, hi, e⟩ := mem_at hc
    exact hno i hi (by rw [e]; exact e1)
  cases hr : Idx.right x.k
  · exact .inr ⟨1, put_wrong hr, by decide, by decide⟩
  · by_cases hm : Idx.many T + 1 = T.length
    · exact .inr ⟨8, put_full h.good hr hno' hm, by decide, by decide⟩
    · have := h.good.room
      obtain ⟨R, e, g, hs, hmn, hl⟩ := put_ok (n := x.n) h.good hr hno' (by omega)
      refine .inl ⟨R, e, g, by rw [hl, h.len], fun k v => ?_, by rw [hmn, h.many]; simp, ?_⟩
      · rw [hs, h.has]
        constructor
        · rintro (⟨c, hc, e1, e2⟩ | ⟨rfl, rfl⟩)
          · exact ⟨c, by simp [hc], e1, e2⟩
          · exact ⟨x, by simp, rfl, rfl⟩
        · rintro ⟨c, hc, e1, e2⟩
          rw [List.mem_append, List.mem_singleton] at hc
          rcases hc with hc | hc
          · exact .inl ⟨c, hc, e1, e2⟩
          · subst hc; exact .inr ⟨e1.symm, e2.symm⟩
      · rw [List.pairwise_append]
        refine ⟨h.dist, List.pairwise_singleton _ _, fun a ha b hb => ?_⟩
        rw [List.mem_singleton] at hb
        subst hb
        obtain ⟨i, hi, e⟩ := mem_at ha
        rw [← e]; exact hno i hi
theorem MSt.has_at (h : MSt N T hv) {i : Nat} (hi : i < hv.length) : Idx.has T (at' hv i).k (at' hv i).n := (h.has _ _).2 ⟨_, at_mem hi, rfl, rfl⟩
theorem MSt.put_old (h : MSt N T hv) {i : Nat} {k : Key} {x : Int} (hi : i < hv.length) (e : (at' hv i).k = k) : put T k x = (T, 10) := by
  have hh := h.has_at hi
  rw [e] at hh
  refine put_twice h.good ?_ hh
  obtain ⟨j, ej⟩ := hh
  have := h.good.wf j (at_used (by rw [ej])) (by rw [ej])
  rw [ej] at this
  exact this
theorem MSt.del_new (h : MSt N T hv) {k : Key} (hno : ∀ i, i < hv.length → (at' hv i).k ≠ k) : del T k = (T, 9) := by
  refine del_none h.good fun v hh => ?_
  obtain ⟨c, hc, e1, e2⟩ := (h.has _ _).1 hh
  obtain ⟨i, hi, e⟩ := mem_at hc
  exact hno i hi (by rw [e]; exact e1)
theorem split_at {i : Nat} (hi : i < hv.length) : hv = hv.take i ++ at' hv i :: hv.drop (i + 1) := by
  rw [at_lt hi]; simp
theorem MSt.del_old (h : MSt N T hv) {i : Nat} {k : Key} (hi : i < hv.length) (e : (at' hv i).k = k) : ∃ R, del T k = (R, 0) ∧ MSt N R (hv.take i ++ hv.drop (i + 1)) := by
  have hh := h.has_at hi
  rw [e] at hh
  obtain ⟨R, er, g, hs, hmn, hl⟩ := del_ok h.good hh
  have hsp := split_at hi
  have hd := h.dist
  rw [hsp, List.pairwise_append] at hd
  obtain ⟨d1, d2, d3⟩ := hd
  rw [List.pairwise_cons] at d2
  refine ⟨R, er, g, by rw [hl, h.len], fun k' v => ?_, ?_, ?_⟩
  · rw [hs, h.has]
    constructor
    · rintro ⟨⟨c, hc, e1, e2⟩, hk⟩
      refine ⟨c, ?_, e1, e2⟩
      rw [hsp, List.mem_append, List.mem_cons] at hc
      rw [List.mem_append]
      rcases hc with hc | hc | hc
      · exact .inl hc
      · exfalso; apply hk; rw [← e1, hc, e]
      · exact .inr hc
    · rintro ⟨c, hc, e1, e2⟩
      rw [List.mem_append] at hc
      refine ⟨⟨c, ?_, e1, e2⟩, ?_⟩
      · rw [hsp, List.mem_append, List.mem_cons]
        rcases hc with hc | hc
        · exact .inl hc
        · exact .inr (.inr hc)
      · rw [← e1, ← e]
        rcases hc with hc | hc
        · exact d3 c hc _ (by simp)
        · exact fun e' => d2.1 c hc e'.symm
  · have h1 := h.many
    have : hv.length = (hv.take i ++ hv.drop (i + 1)).length + 1 := by simp; omega
    omega
  · rw [List.pairwise_append]
    exact ⟨d1, d2.2, fun a ha b hb => d3 a ha b (by simp [hb])⟩
theorem MSt.get (h : MSt N T hv) {i : Nat} (hi : i < hv.length) : get T (at' hv i).k = ((at' hv i).n, true) := get_has h.good (h.has_at hi)
end Idx
end Go.Proofs.Ytdfbfhejigifoaa
