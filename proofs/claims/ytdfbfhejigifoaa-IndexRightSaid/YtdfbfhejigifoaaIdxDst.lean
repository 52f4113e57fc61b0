/- The state of taking out, step by step. No program in sight. -/
import Derived.Test.YtdfbfhejigifoaaIdxDel
namespace Go.Proofs.Ytdfbfhejigifoaa
set_option linter.unusedVariables false
namespace Idx
variable {l out : List Cell}
structure DSt (l : List Cell) (k : Key) (e f : Nat) (out : List Cell) (hole a : Nat) : Prop where
  inv : DInv l (out.set hole Cell.nil) k hole a e
  len : out.length = l.length
  fuel : dist l.length a e < f
theorem DSt.start (h : Good l) {k : Key} {p : Nat} (hf : fnd l k = some p) (hu : (at' l p).u = true) : ∃ e, DSt l k e l.length l p (adv l.length p 1) := by
  obtain ⟨e, hD⟩ := del_start h hf hu
  exact ⟨e, hD, rfl, dist_lt hD.ha hD.he⟩
theorem DSt.at_eq {k : Key} {e f hole a : Nat} (h : DSt l k e f out hole a) : at' (out.set hole Cell.nil) a = at' out a := by
  rw [at_set (by rw [h.len]; exact h.inv.hh), if_neg h.inv.a_ne]
theorem DSt.stop {k : Key} {e f hole a : Nat} (h : DSt l k e f out hole a) (hu : (at' out a).u = false) : delLoop f out hole a = out.set hole Cell.nil := by
  cases f with
  | zero => rfl
  | succ f => unfold delLoop; rw [hu]; rfl
theorem DSt.move {k : Key} {e f hole a : Nat} (h : DSt l k e f out hole a) (hu : (at' out a).u = true) (hd : dist l.length hole a ≤ dist l.length (home l.length (at' out a).k) a) :
    ∃ f', f = f' + 1 ∧ DSt l k e f' (out.set hole (at' out a)) a (adv l.length a 1) ∧ delLoop f out hole a = delLoop f' (out.set hole (at' out a)) a (adv l.length a 1) := by
  have hi := h.inv
  have hae := hi.a_ne
  have hha := hi.ha
  have hhe := hi.he
  have he := h.at_eq
  have hnea : e ≠ a := by rintro rfl; have := hi.eu; rw [he, hu] at this; cases this
  have hf := h.fuel
  cases f with
  | zero => omega
  | succ f =>
    obtain ⟨h1, h2⟩ := del_move hi (by rw [he]; exact hu) (by rw [he]; exact hd)
    have hA := adv_or hha
    have e1 := dist_or l.length (adv l.length a 1) e
    have e2 := dist_or l.length a e
    refine ⟨f, rfl, ⟨?_, by simpa using h.len, by omega⟩, ?_⟩
    · rw [he, List.set_set] at h2
      exact h2
    · conv => lhs; unfold delLoop
      rw [if_pos hu, h.len, if_pos hd]
theorem DSt.stay {k : Key} {e f hole a : Nat} (h : DSt l k e f out hole a) (hu : (at' out a).u = true) (hd : ¬ dist l.length hole a ≤ dist l.length (home l.length (at' out a).k) a) :
    ∃ f', f = f' + 1 ∧ DSt l k e f' out hole (adv l.length a 1) ∧ delLoop f out hole a = delLoop f' out hole (adv l.length a 1) := by
  have hi := h.inv
  have hae := hi.a_ne
  have hha := hi.ha
  have hhe := hi.he
  have he := h.at_eq
  have hnea : e ≠ a := by rintro rfl; have := hi.eu; rw [he, hu] at this; cases this
  have hf := h.fuel
  cases f with
  | zero => omega
  | succ f =>
    obtain ⟨h1, h2⟩ := del_stay hi (by rw [he]; exact hu) (by rw [he]; omega)
    have hA := adv_or hha
    have e1 := dist_or l.length (adv l.length a 1) e
    have e2 := dist_or l.length a e
    refine ⟨f, rfl, ⟨h2, h.len, by omega⟩, ?_⟩
    · conv => lhs; unfold delLoop
      rw [if_pos hu, h.len, if_neg hd]
theorem dist_int {N a b : Nat} (ha : a < N) (hb : b < N) : ((b : Int) - (a : Int)) % (N : Int) = (dist N a b : Int) := by
  rcases dist_or N a b with ⟨h1, h2⟩ | ⟨h1, h2⟩
  · rw [h2, Int.emod_eq_of_lt (by omega) (by omega)]; omega
  · rw [h2]
    have : (b : Int) - a = (b : Int) - a + N + N * (-1) := by omega
    rw [this, Int.add_mul_emod_self_left, Int.emod_eq_of_lt (by omega) (by omega)]; omega
theorem del_a {k : Key} (h : Right l = false) : del l k = (l, 1) := by unfold del; rw [h]; rfl
theorem del_b {k : Key} {p : Nat} (h : Right l = true) (hf : fnd l k = some p) (hu : (at' l p).u = false) : del l k = (l, 9) := by unfold del; rw [h, hf]; simp [hu]
theorem del_c {k : Key} {p : Nat} (h : Right l = true) (hf : fnd l k = some p) (hu : (at' l p).u = true) : del l k = (delLoop l.length l p (adv l.length p 1), 0) := by unfold del; rw [h, hf]; simp [hu]
end Idx
end Go.Proofs.Ytdfbfhejigifoaa
