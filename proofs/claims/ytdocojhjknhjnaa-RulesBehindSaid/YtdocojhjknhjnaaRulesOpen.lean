/- api.Rule, []api.Rule, api.Tuple that came in. -/
import Derived.Test.YtdocojhjknhjnaaOpenS
import Derived.Test.YtdocojhjknhjnaaRulesLoops
import Derived.Test.YtdocojhjknhjnaaChecked
namespace Go.Proofs.Ytdocojhjknhjnaa
open Go.ChangeShapes Go.WideShapes Go.ChangeAt Go.RowKit Go.Deep
set_option linter.unusedVariables false
section
variable {H : Type} {enc : TypeId × Value → H} {w : World} {held : Bool}
theorem rule_cells {n : Nat} {cs : List Value} {y : DataW H × List MemPlace} (hl : cs.length = 10) (h : DataW.trod enc Try.prog w 0 (fun _ => true) held n 32 cs = some y) : ∃ r : Rules.Rule, cs = r.cells ∧ r.wf := by
  obtain ⟨m, hf⟩ := struct_cells Try.underlying32 (by kernel_rfl) (by simpa using hl) h
  match cs, hl with
  | [c0, c1, c2, c3, c4, c5, c6, c7, c8, c9], _ =>
    obtain ⟨u0, y0, e0, t0⟩ := hf 0 _ rfl
    obtain ⟨u1, y1, e1, t1⟩ := hf 1 _ rfl
    obtain ⟨u2, y2, e2, t2⟩ := hf 2 _ rfl
    obtain ⟨u3, y3, e3, t3⟩ := hf 3 _ rfl
    obtain ⟨u4, y4, e4, t4⟩ := hf 4 _ rfl
    obtain ⟨u5, y5, e5, t5⟩ := hf 5 _ rfl
    obtain ⟨u6, y6, e6, t6⟩ := hf 6 _ rfl
    obtain ⟨u7, y7, e7, t7⟩ := hf 7 _ rfl
    obtain ⟨u8, y8, e8, t8⟩ := hf 8 _ rfl
    obtain ⟨u9, y9, e9, t9⟩ := hf 9 _ rfl
    simp only [List.getElem?_cons_zero, List.getElem?_cons_succ, Option.some.injEq] at e0 e1 e2 e3 e4 e5 e6 e7 e8 e9
    subst e0 e1 e2 e3 e4 e5 e6 e7 e8 e9
    obtain ⟨x0, k0, _, w0⟩ := DataW.trod_int Try.underlying3 t0
    obtain ⟨x1, k1, _, w1⟩ := DataW.trod_int Try.underlying3 t1
    obtain ⟨x2, k2, _, w2⟩ := DataW.trod_int Try.underlying3 t2
    obtain ⟨x3, k3, _, w3⟩ := DataW.trod_int Try.underlying23 t3
    obtain ⟨x4, k4, _, w4⟩ := DataW.trod_int Try.underlying23 t4
    obtain ⟨x5, k5, _, w5⟩ := DataW.trod_int Try.underlying3 t5
    obtain ⟨x6, k6, _, w6⟩ := DataW.trod_int Try.underlying3 t6
    obtain ⟨x7, k7, _, w7⟩ := DataW.trod_int Try.underlying3 t7
    obtain ⟨x8, k8, _, w8⟩ := DataW.trod_int Try.underlying3 t8
    obtain ⟨x9, k9, _, w9⟩ := DataW.trod_int Try.underlying3 t9
    simp only [List.cons.injEq, and_true] at k0 k1 k2 k3 k4 k5 k6 k7 k8 k9
    subst k0 k1 k2 k3 k4 k5 k6 k7 k8 k9
    exact ⟨⟨x0, x1, x2, x3, x4, x5, x6, x7, x8, x9⟩, rfl, bounds_u32 w3, bounds_u32 w4⟩
theorem tup_cells {n : Nat} {cs : List Value} {y : DataW H × List MemPlace} (hl : cs.length = 5) (h : DataW.trod enc Try.prog w 0 (fun _ => true) held n 25 cs = some y) : ∃ t : Rules.Tup, cs = t.cells ∧ t.wf := by
  obtain ⟨m, hf⟩ := struct_cells Try.underlying25 (by kernel_rfl) (by simpa using hl) h
  match cs, hl with
  | [c0, c1, c2, c3, c4], _ =>
    obtain ⟨u0, y0, e0, t0⟩ := hf 0 _ rfl
    obtain ⟨u1, y1, e1, t1⟩ := hf 1 _ rfl
    obtain ⟨u2, y2, e2, t2⟩ := hf 2 _ rfl
    obtain ⟨u3, y3, e3, t3⟩ := hf 3 _ rfl
    obtain ⟨u4, y4, e4, t4⟩ := hf 4 _ rfl
    simp only [List.getElem?_cons_zero, List.getElem?_cons_succ, Option.some.injEq] at e0 e1 e2 e3 e4
    subst e0 e1 e2 e3 e4
    obtain ⟨x0, k0, _, w0⟩ := DataW.trod_int Try.underlying3 t0
    obtain ⟨x1, k1, _, w1⟩ := DataW.trod_int Try.underlying23 t1
    obtain ⟨x2, k2, _, w2⟩ := DataW.trod_int Try.underlying3 t2
    obtain ⟨x3, k3, _, w3⟩ := DataW.trod_int Try.underlying23 t3
    obtain ⟨x4, k4, _, w4⟩ := DataW.trod_int Try.underlying3 t4
    simp only [List.cons.injEq, and_true] at k0 k1 k2 k3 k4
    subst k0 k1 k2 k3 k4
    exact ⟨⟨x0, x1, x2, x3, x4⟩, rfl, bounds_u32 w1, bounds_u32 w3⟩
theorem open_rules {r : Reach} {b0 : Nat} {v : Value} {d : DataW H} {p : List MemPlace} (hv : Value.okWide Try.prog w r b0 22 v) (h : DataW.Trod enc Try.prog w 0 (fun _ => true) held 22 v d p) :
    ∃ A n c, ∃ l : List Rules.Rule, v = .slice A n c ∧ RdRow w A n l ∧ (∀ r ∈ l, r.wf) ∧ n ≤ c ∧ c ≤ 9223372036854775807 := by
  obtain ⟨a, len, cap, rfl⟩ := okWide_slice Try.underlying22 hv
  obtain ⟨fuel, hf⟩ := h
  obtain ⟨A, n, c, l, hvs, hl, hok, hc, hnc, hcc⟩ := open_rows Try.underlying22 10 (by kernel_rfl) (by decide) Rules.Rule.cells Rules.Rule.wf (fun n cs y hl h => rule_cells hl h) hf
  exact ⟨A, n, c, l, hvs, ⟨hl, by omega, fun j hj => by
    obtain ⟨b, off, e, hb, h1⟩ := hc j hj
    exact ⟨b, off, e, hb, h1⟩⟩, hok, hnc, hcc⟩
theorem open_rule {r : Reach} {b0 : Nat} {v : Value} {d : DataW H} {p : List MemPlace} (hv : Value.okWide Try.prog w r b0 32 v) (h : DataW.Trod enc Try.prog w 0 (fun _ => true) held 32 v d p) :
    ∃ r : Rules.Rule, v = .agg r.cells.toArray ∧ r.wf := by
  obtain ⟨cs, rfl, hsz⟩ := okWide_struct Try.underlying32 hv
  obtain ⟨l⟩ := cs
  obtain ⟨fuel, hf⟩ := h
  have hl : l.length = 10 := by have := hsz.trans (show Try.prog.cellsOf 32 = 10 by kernel_rfl); simpa using this
  obtain ⟨r, rfl, hr⟩ := rule_cells (cs := l) hl hf
  exact ⟨r, rfl, hr⟩
theorem open_tuple {r : Reach} {b0 : Nat} {v : Value} {d : DataW H} {p : List MemPlace} (hv : Value.okWide Try.prog w r b0 25 v) (h : DataW.Trod enc Try.prog w 0 (fun _ => true) held 25 v d p) :
    ∃ t : Rules.Tup, v = .agg t.cells.toArray ∧ t.wf := by
  obtain ⟨cs, rfl, hsz⟩ := okWide_struct Try.underlying25 hv
  obtain ⟨l⟩ := cs
  obtain ⟨fuel, hf⟩ := h
  have hl : l.length = 5 := by have := hsz.trans (show Try.prog.cellsOf 25 = 5 by kernel_rfl); simpa using this
  obtain ⟨t, rfl, ht⟩ := tup_cells (cs := l) hl hf
  exact ⟨t, rfl, ht⟩
end
end Go.Proofs.Ytdocojhjknhjnaa
