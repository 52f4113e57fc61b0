/- api.Shift that came in. -/
import Derived.Test.YtklefgcackchiaaOpenS
import Derived.Test.YtklefgcackchiaaChecked
namespace Go.Proofs.Ytklefgcackchiaa
open Go.ChangeShapes Go.WideShapes Go.ChangeAt Go.RowKit Go.Deep
set_option linter.unusedVariables false
section
variable {H : Type} {enc : TypeId × Value → H} {w : World} {held : Bool}
theorem shift_cells {n : Nat} {cs : List Value} {y : DataW H × List MemPlace} (hl : cs.length = 2) (h : DataW.trod enc Try.prog w 0 (fun _ => true) held n 28 cs = some y) : ∃ s st : Int, cs = [.int .u32 s, .int .u32 st] ∧ (0 ≤ s ∧ s ≤ 4294967295) ∧ 0 ≤ st ∧ st ≤ 4294967295 := by
  obtain ⟨m, hf⟩ := struct_cells Try.underlying28 (by kernel_rfl) (by simpa using hl) h
  match cs, hl with
  | [c0, c1], _ =>
    obtain ⟨u0, y0, e0, t0⟩ := hf 0 _ rfl
    obtain ⟨u1, y1, e1, t1⟩ := hf 1 _ rfl
    simp only [List.getElem?_cons_zero, List.getElem?_cons_succ, Option.some.injEq] at e0 e1
    subst e0 e1
    obtain ⟨x0, k0, _, w0⟩ := DataW.trod_int Try.underlying22 t0
    obtain ⟨x1, k1, _, w1⟩ := DataW.trod_int Try.underlying22 t1
    simp only [List.cons.injEq, and_true] at k0 k1
    subst k0 k1
    exact ⟨x0, x1, rfl, bounds_u32 w0, bounds_u32 w1⟩
theorem open_shift {r : Reach} {b0 : Nat} {v : Value} {d : DataW H} {p : List MemPlace} (hv : Value.okWide Try.prog w r b0 28 v) (h : DataW.Trod enc Try.prog w 0 (fun _ => true) held 28 v d p) :
    ∃ s st : Int, v = .agg #[.int .u32 s, .int .u32 st] ∧ (0 ≤ s ∧ s ≤ 4294967295) ∧ 0 ≤ st ∧ st ≤ 4294967295 := by
  obtain ⟨cs, rfl, hsz⟩ := okWide_struct Try.underlying28 hv
  obtain ⟨l⟩ := cs
  obtain ⟨fuel, hf⟩ := h
  have hl : l.length = 2 := by have := hsz.trans (show Try.prog.cellsOf 28 = 2 by kernel_rfl); simpa using this
  obtain ⟨s, st, rfl, h1, h2⟩ := shift_cells hl hf
  exact ⟨s, st, rfl, h1, h2⟩
end
end Go.Proofs.Ytklefgcackchiaa
