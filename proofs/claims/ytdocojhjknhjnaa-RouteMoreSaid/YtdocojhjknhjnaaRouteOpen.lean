/- api.Route, []api.Route that came in. -/
import Derived.Test.YtdocojhjknhjnaaOpenS
import Derived.Test.YtdocojhjknhjnaaRouteLoops
import Derived.Test.YtdocojhjknhjnaaChecked
namespace Go.Proofs.Ytdocojhjknhjnaa
open Go.ChangeShapes Go.WideShapes Go.ChangeAt Go.RowKit Go.Deep
set_option linter.unusedVariables false
section
variable {H : Type} {enc : TypeId × Value → H} {w : World} {held : Bool}
theorem route_cells {n : Nat} {cs : List Value} {y : DataW H × List MemPlace} (hl : cs.length = 4) (h : DataW.trod enc Try.prog w 0 (fun _ => true) held n 40 cs = some y) : ∃ r : Route.R, cs = r.cells ∧ r.wf := by
  obtain ⟨m, hf⟩ := struct_cells Try.underlying40 (by kernel_rfl) (by simpa using hl) h
  match cs, hl with
  | [c0, c1, c2, c3], _ =>
    obtain ⟨u0, y0, e0, t0⟩ := hf 0 _ rfl
    obtain ⟨u1, y1, e1, t1⟩ := hf 1 _ rfl
    obtain ⟨u2, y2, e2, t2⟩ := hf 2 _ rfl
    obtain ⟨u3, y3, e3, t3⟩ := hf 3 _ rfl
    simp only [List.getElem?_cons_zero, List.getElem?_cons_succ, Option.some.injEq] at e0 e1 e2 e3
    subst e0 e1 e2 e3
    obtain ⟨x0, k0, _, w0⟩ := DataW.trod_int Try.underlying23 t0
    obtain ⟨x1, k1, _, w1⟩ := DataW.trod_int Try.underlying3 t1
    obtain ⟨x2, k2, _, w2⟩ := DataW.trod_int Try.underlying3 t2
    obtain ⟨x3, k3, _, w3⟩ := DataW.trod_int Try.underlying3 t3
    simp only [List.cons.injEq, and_true] at k0 k1 k2 k3
    subst k0 k1 k2 k3
    exact ⟨⟨x0, x1, x2, x3⟩, rfl, bounds_u32 w0⟩
theorem open_routes {r : Reach} {b0 : Nat} {v : Value} {d : DataW H} {p : List MemPlace} (hv : Value.okWide Try.prog w r b0 38 v) (h : DataW.Trod enc Try.prog w 0 (fun _ => true) held 38 v d p) :
    ∃ A n c, ∃ l : List Route.R, v = .slice A n c ∧ RdRoutes w A n l ∧ (∀ r ∈ l, r.wf) ∧ n ≤ c ∧ c ≤ 9223372036854775807 := by
  obtain ⟨a, len, cap, rfl⟩ := okWide_slice Try.underlying38 hv
  obtain ⟨fuel, hf⟩ := h
  obtain ⟨A, n, c, l, hvs, hl, hok, hc, hnc, hcc⟩ := open_rows Try.underlying38 4 (by kernel_rfl) (by decide) Route.R.cells Route.R.wf (fun n cs y hl h => route_cells hl h) hf
  exact ⟨A, n, c, l, hvs, ⟨hl, by omega, fun j hj => by
    obtain ⟨b, off, e, hb, h1⟩ := hc j hj
    exact ⟨b, off, e, hb, h1⟩⟩, hok, hnc, hcc⟩
theorem open_route {r : Reach} {b0 : Nat} {v : Value} {d : DataW H} {p : List MemPlace} (hv : Value.okWide Try.prog w r b0 40 v) (h : DataW.Trod enc Try.prog w 0 (fun _ => true) held 40 v d p) :
    ∃ r : Route.R, v = .agg r.cells.toArray ∧ r.wf := by
  obtain ⟨cs, rfl, hsz⟩ := okWide_struct Try.underlying40 hv
  obtain ⟨l⟩ := cs
  obtain ⟨fuel, hf⟩ := h
  have hl : l.length = 4 := by have := hsz.trans (show Try.prog.cellsOf 40 = 4 by kernel_rfl); simpa using this
  obtain ⟨r, rfl, hr⟩ := route_cells (cs := l) hl hf
  exact ⟨r, rfl, hr⟩
end
end Go.Proofs.Ytdocojhjknhjnaa
