/- []casematelaw11.Act that came in. -/
import Derived.Test.YtlibhboibkajgaaOpenS
import Derived.Test.YtlibhboibkajgaaWrLaw
import Derived.Test.YtlibhboibkajgaaChecked
namespace Go.Proofs.Ytlibhboibkajgaa
open Go.ChangeShapes Go.WideShapes Go.ChangeAt Go.RowKit Go.Deep
set_option linter.unusedVariables false
section
variable {H : Type} {enc : TypeId × Value → H} {w : World} {held : Bool}
structure ActV where
  kd : Int
  k : Int
  t : Int
instance : Inhabited ActV := ⟨⟨0, 0, 0⟩⟩
def ActV.cells (a : ActV) : List Value := [.int .i64 a.kd, .int .i64 a.k, .int .i64 a.t]
theorem act_cells {n : Nat} {cs : List Value} {y : DataW H × List MemPlace} (hl : cs.length = 3) (h : DataW.trod enc Try.prog w 0 (fun _ => true) held n 46 cs = some y) : ∃ r : ActV, cs = r.cells ∧ True := by
  obtain ⟨m, hf⟩ := struct_cells Try.underlying46 (by kernel_rfl) (by simpa using hl) h
  match cs, hl with
  | [c0, c1, c2], _ =>
    obtain ⟨u0, y0, e0, t0⟩ := hf 0 _ rfl
    obtain ⟨u1, y1, e1, t1⟩ := hf 1 _ rfl
    obtain ⟨u2, y2, e2, t2⟩ := hf 2 _ rfl
    simp only [List.getElem?_cons_zero, List.getElem?_cons_succ, Option.some.injEq] at e0 e1 e2
    subst e0 e1 e2
    obtain ⟨x0, k0, _, w0⟩ := DataW.trod_int Try.underlying3 t0
    obtain ⟨x1, k1, _, w1⟩ := DataW.trod_int Try.underlying3 t1
    obtain ⟨x2, k2, _, w2⟩ := DataW.trod_int Try.underlying3 t2
    simp only [List.cons.injEq, and_true] at k0 k1 k2
    subst k0 k1 k2
    exact ⟨⟨x0, x1, x2⟩, rfl, trivial⟩
theorem open_acts {r : Reach} {b0 : Nat} {v : Value} {d : DataW H} {p : List MemPlace} (hv : Value.okWide Try.prog w r b0 41 v) (h : DataW.Trod enc Try.prog w 0 (fun _ => true) held 41 v d p) :
    ∃ A n c, v = .slice A n c ∧ RdActs w A n ∧ n ≤ 9223372036854775807 := by
  obtain ⟨a, len, cap, rfl⟩ := okWide_slice Try.underlying41 hv
  obtain ⟨fuel, hf⟩ := h
  obtain ⟨A, n, c, l, hvs, hl, hok, hc, hnc, hcc⟩ := open_rows Try.underlying41 3 (by kernel_rfl) (by decide) ActV.cells (fun _ => True) (fun n cs y hl h => act_cells hl h) hf
  refine ⟨A, n, c, hvs, fun j hj => ?_, by omega⟩
  obtain ⟨b, off, e, hb, h1⟩ := hc j hj
  exact ⟨b, off, _, _, _, e, hb, h1 0 _ rfl, h1 1 _ rfl, h1 2 _ rfl⟩
end
end Go.Proofs.Ytlibhboibkajgaa
