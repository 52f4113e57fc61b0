/- [2]api.Side that came in. -/
import Derived.Test.YtliibpajgdncpaaOpenS
import Derived.Test.YtliibpajgdncpaaChecked
import Derived.Test.YtliibpajgdncpaaWinPlain
namespace Go.Proofs.Ytliibpajgdncpaa
open Go.ChangeShapes Go.WideShapes Go.ChangeAt Go.RowKit Go.Deep
set_option linter.unusedVariables false
section
variable {H : Type} {enc : TypeId × Value → H} {w : World} {held : Bool}
theorem side_cells {n : Nat} {cs : List Value} {y : DataW H × List MemPlace} (hl : cs.length = 6) (h : DataW.trod enc Try.prog w 0 (fun _ => true) held n 46 cs = some y) : ∃ x : Win.S, cs = x.cells ∧ x.ok := by
  obtain ⟨m, hf⟩ := struct_cells Try.underlying46 (by kernel_rfl) (by simpa using hl) h
  match cs, hl with
  | [c0, c1, c2, c3, c4, c5], _ =>
    obtain ⟨u0, y0, e0, t0⟩ := hf 0 _ rfl
    obtain ⟨u1, y1, e1, t1⟩ := hf 1 _ rfl
    obtain ⟨u2, y2, e2, t2⟩ := hf 2 _ rfl
    obtain ⟨u3, y3, e3, t3⟩ := hf 3 _ rfl
    obtain ⟨u4, y4, e4, t4⟩ := hf 4 _ rfl
    obtain ⟨u5, y5, e5, t5⟩ := hf 5 _ rfl
    simp only [List.getElem?_cons_zero, List.getElem?_cons_succ, Option.some.injEq] at e0 e1 e2 e3 e4 e5
    subst e0 e1 e2 e3 e4 e5
    obtain ⟨x0, k0, _, w0⟩ := DataW.trod_int Try.underlying23 t0
    obtain ⟨x1, k1, _, w1⟩ := DataW.trod_int Try.underlying23 t1
    obtain ⟨x2, k2, _, w2⟩ := DataW.trod_int Try.underlying23 t2
    obtain ⟨x3, k3, _, w3⟩ := DataW.trod_int Try.underlying3 t3
    obtain ⟨x4, k4, _, w4⟩ := DataW.trod_int Try.underlying3 t4
    obtain ⟨x5, k5, _⟩ := DataW.trod_bool Try.underlying4 t5
    simp only [List.cons.injEq, and_true] at k0 k1 k2 k3 k4 k5
    subst k0 k1 k2 k3 k4 k5
    exact ⟨⟨x0, x1, x2, x3, x4, x5⟩, rfl, ⟨bounds_u32 w0, bounds_u32 w1, bounds_u32 w2, bounds_i64 w3, bounds_i64 w4⟩⟩
theorem open_sides {r : Reach} {b0 : Nat} {v : Value} {d : DataW H} {p : List MemPlace} (hv : Value.okWide Try.prog w r b0 47 v) (h : DataW.Trod enc Try.prog w 0 (fun _ => true) held 47 v d p) :
    ∃ x y : Win.S, v = .agg (x.cells ++ y.cells).toArray ∧ x.ok ∧ y.ok := by
  simp only [Value.okWide, Try.underlying47] at hv
  obtain ⟨cs, rfl, hsz, _⟩ := hv
  obtain ⟨l⟩ := cs
  obtain ⟨fuel, hf⟩ := h
  have hl : l.length = 12 := by have := hsz.trans (show Try.prog.cellsOf 47 = 12 by kernel_rfl); simpa using this
  have hc : Try.prog.cellsOf 46 = 6 := by kernel_rfl
  have hf' : DataW.trod enc Try.prog w 0 (fun _ => true) held fuel 47 l = some (d, p) := hf
  obtain ⟨xs, m, _, _, _, hx, hg⟩ := DataW.trod_array Try.underlying47 hf'
  have h0 := hg 0 (by omega)
  have h1 := hg 1 (by omega)
  rw [hc] at h0 h1
  match l, hl with
  | [c0, c1, c2, c3, c4, c5, c6, c7, c8, c9, c10, c11], _ =>
    simp only [Nat.zero_mul, Nat.one_mul, List.drop_zero, List.drop_succ_cons, List.take_succ_cons, List.take_zero] at h0 h1
    obtain ⟨x, hx0, hx1⟩ := side_cells rfl (h0.trans (List.getElem?_eq_getElem (by omega)))
    obtain ⟨y, hy0, hy1⟩ := side_cells rfl (h1.trans (List.getElem?_eq_getElem (by omega)))
    exact ⟨x, y, by rw [← hx0, ← hy0]; rfl, hx1, hy1⟩
end
end Go.Proofs.Ytliibpajgdncpaa
