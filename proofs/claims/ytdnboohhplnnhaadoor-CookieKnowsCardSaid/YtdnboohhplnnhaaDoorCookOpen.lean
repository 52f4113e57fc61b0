/- api.Tuple that came in, for the cookie laws. -/
import Derived.Test.YtdnboohhplnnhaaDoorOpenS
import Derived.Test.YtdnboohhplnnhaaDoorCookPlain
namespace Go.Proofs.YtdnboohhplnnhaaDoor
open Go.ChangeShapes Go.WideShapes Go.ChangeAt Go.RowKit
set_option linter.unusedVariables false
section
variable {H : Type} {enc : TypeId × Value → H} {w : World} {held : Bool}
theorem ctup_cells {n : Nat} {cs : List Value} {y : DataW H × List MemPlace} (hl : cs.length = 5) (h : DataW.trod enc Tryd.prog w 0 (fun _ => true) held n 25 cs = some y) : ∃ t : Cook.Tup, cs = [.int .i64 t.proto, .int .u32 t.src, .int .i64 t.sport, .int .u32 t.dst, .int .i64 t.dport] ∧ t.wf := by
  obtain ⟨m, hf⟩ := struct_cells Tryd.underlying25 (by kernel_rfl) (by simpa using hl) h
  match cs, hl with
  | [c0, c1, c2, c3, c4], _ =>
    obtain ⟨u0, y0, e0, t0⟩ := hf 0 _ rfl
    obtain ⟨u1, y1, e1, t1⟩ := hf 1 _ rfl
    obtain ⟨u2, y2, e2, t2⟩ := hf 2 _ rfl
    obtain ⟨u3, y3, e3, t3⟩ := hf 3 _ rfl
    obtain ⟨u4, y4, e4, t4⟩ := hf 4 _ rfl
    simp only [List.getElem?_cons_zero, List.getElem?_cons_succ, Option.some.injEq] at e0 e1 e2 e3 e4
    subst e0 e1 e2 e3 e4
    obtain ⟨x0, k0, _, w0⟩ := DataW.trod_int Tryd.underlying3 t0
    obtain ⟨x1, k1, _, w1⟩ := DataW.trod_int Tryd.underlying23 t1
    obtain ⟨x2, k2, _, w2⟩ := DataW.trod_int Tryd.underlying3 t2
    obtain ⟨x3, k3, _, w3⟩ := DataW.trod_int Tryd.underlying23 t3
    obtain ⟨x4, k4, _, w4⟩ := DataW.trod_int Tryd.underlying3 t4
    simp only [List.cons.injEq, and_true] at k0 k1 k2 k3 k4
    subst k0 k1 k2 k3 k4
    exact ⟨⟨x0, x1, x2, x3, x4⟩, rfl, bounds_u32 w1, bounds_u32 w3⟩
theorem open_ctuple {r : Reach} {b0 : Nat} {v : Value} {d : DataW H} {p : List MemPlace} (hv : Value.okWide Tryd.prog w r b0 25 v) (h : DataW.Trod enc Tryd.prog w 0 (fun _ => true) held 25 v d p) :
    ∃ t : Cook.Tup, v = .agg #[.int .i64 t.proto, .int .u32 t.src, .int .i64 t.sport, .int .u32 t.dst, .int .i64 t.dport] ∧ t.wf := by
  obtain ⟨cs, rfl, hsz⟩ := okWide_struct Tryd.underlying25 hv
  obtain ⟨l⟩ := cs
  obtain ⟨fuel, hf⟩ := h
  have hl : l.length = 5 := by have := hsz.trans (show Tryd.prog.cellsOf 25 = 5 by kernel_rfl); simpa using this
  obtain ⟨t, rfl, ht⟩ := ctup_cells (cs := l) hl hf
  exact ⟨t, rfl, ht⟩
end
end Go.Proofs.YtdnboohhplnnhaaDoor
