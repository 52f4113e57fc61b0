/- api.Shift that came in. api.Tuple that came in, for the cookie laws. ProxyKnows' walk in the form that the last step takes. -/
import Derived.Test.YtpidpbjbgjkaaaaDoorJ3
import Derived.Test.YtpidpbjbgjkaaaaDoorChecked
import Derived.Test.YtpidpbjbgjkaaaaDoorCookPlain
import Derived.Test.YtpidpbjbgjkaaaaDoorProxKnowsW
namespace Go.Proofs.YtpidpbjbgjkaaaaDoor
open Go.ChangeShapes Go.WideShapes Go.ChangeAt Go.RowKit Go.Deep
set_option maxRecDepth 8000
set_option linter.unusedVariables false
section
variable {H : Type} {enc : TypeId × Value → H} {w : World} {held : Bool}
theorem shift_cells {n : Nat} {cs : List Value} {y : DataW H × List MemPlace} (hl : cs.length = 2) (h : DataW.trod enc Tryd.prog w 0 (fun _ => true) held n 31 cs = some y) : ∃ s st : Int, cs = [.int .u32 s, .int .u32 st] ∧ (0 ≤ s ∧ s ≤ 4294967295) ∧ 0 ≤ st ∧ st ≤ 4294967295 := by
  obtain ⟨m, hf⟩ := struct_cells Tryd.underlying31 (by kernel_rfl) (by simpa using hl) h
  match cs, hl with
  | [c0, c1], _ =>
    obtain ⟨u0, y0, e0, t0⟩ := hf 0 _ rfl
    obtain ⟨u1, y1, e1, t1⟩ := hf 1 _ rfl
    simp only [List.getElem?_cons_zero, List.getElem?_cons_succ, Option.some.injEq] at e0 e1
    subst e0 e1
    obtain ⟨x0, k0, _, w0⟩ := DataW.trod_int Tryd.underlying23 t0
    obtain ⟨x1, k1, _, w1⟩ := DataW.trod_int Tryd.underlying23 t1
    simp only [List.cons.injEq, and_true] at k0 k1
    subst k0 k1
    exact ⟨x0, x1, rfl, bounds_u32 w0, bounds_u32 w1⟩
theorem open_shift {r : Reach} {b0 : Nat} {v : Value} {d : DataW H} {p : List MemPlace} (hv : Value.okWide Tryd.prog w r b0 31 v) (h : DataW.Trod enc Tryd.prog w 0 (fun _ => true) held 31 v d p) :
    ∃ s st : Int, v = .agg #[.int .u32 s, .int .u32 st] ∧ (0 ≤ s ∧ s ≤ 4294967295) ∧ 0 ≤ st ∧ st ≤ 4294967295 := by
  obtain ⟨cs, rfl, hsz⟩ := okWide_struct Tryd.underlying31 hv
  obtain ⟨l⟩ := cs
  obtain ⟨fuel, hf⟩ := h
  have hl : l.length = 2 := by have := hsz.trans (show Tryd.prog.cellsOf 31 = 2 by kernel_rfl); simpa using this
  obtain ⟨s, st, rfl, h1, h2⟩ := shift_cells hl hf
  exact ⟨s, st, rfl, h1, h2⟩
end
end Go.Proofs.YtpidpbjbgjkaaaaDoor
namespace Go.Proofs.YtpidpbjbgjkaaaaDoor
open Go.ChangeShapes Go.WideShapes Go.ChangeAt Go.RowKit
set_option maxRecDepth 8000
set_option linter.unusedVariables false
section
variable {H : Type} {enc : TypeId × Value → H} {w : World} {held : Bool}
theorem ctup_cells {n : Nat} {cs : List Value} {y : DataW H × List MemPlace} (hl : cs.length = 5) (h : DataW.trod enc Tryd.prog w 0 (fun _ => true) held n 25 cs = some y) : ∃ t : Cook.Tup, cs = [.int .i64 t.proto, .int .u32 t.src, .int .i64 t.sport, .int .u32 t.dst, .int .i64 t.dport] ∧ t.wf := by
  obtain ⟨m, hf⟩ := struct_cells Tryd.underlying25 (by kernel_rfl) (by simpa using hl) h
  match cs, hl with
  | [c0, c1, c2, c3, c4], _ =>
    obtain ⟨u0, y0, e0, t0⟩ := hf 0 _ rfl
    obtain ⟨u1, y1, e1, t1⟩ := hf 1 _ rfl
    obtain ⟨u2, y2, e2, t2⟩ := hf 2 _ rfl
    obtain ⟨u3, y3, e3, t3⟩ := hf 3 _ rfl
    obtain ⟨u4, y4, e4, t4⟩ := hf 4 _ rfl
    simp only [List.getElem?_cons_zero, List.getElem?_cons_succ, Option.some.injEq] at e0 e1 e2 e3 e4
    subst e0 e1 e2 e3 e4
    obtain ⟨x0, k0, _, w0⟩ := DataW.trod_int Tryd.underlying3 t0
    obtain ⟨x1, k1, _, w1⟩ := DataW.trod_int Tryd.underlying23 t1
    obtain ⟨x2, k2, _, w2⟩ := DataW.trod_int Tryd.underlying3 t2
    obtain ⟨x3, k3, _, w3⟩ := DataW.trod_int Tryd.underlying23 t3
    obtain ⟨x4, k4, _, w4⟩ := DataW.trod_int Tryd.underlying3 t4
    simp only [List.cons.injEq, and_true] at k0 k1 k2 k3 k4
    subst k0 k1 k2 k3 k4
    exact ⟨⟨x0, x1, x2, x3, x4⟩, rfl, bounds_u32 w1, bounds_u32 w3⟩
theorem open_ctuple {r : Reach} {b0 : Nat} {v : Value} {d : DataW H} {p : List MemPlace} (hv : Value.okWide Tryd.prog w r b0 25 v) (h : DataW.Trod enc Tryd.prog w 0 (fun _ => true) held 25 v d p) :
    ∃ t : Cook.Tup, v = .agg #[.int .i64 t.proto, .int .u32 t.src, .int .i64 t.sport, .int .u32 t.dst, .int .i64 t.dport] ∧ t.wf := by
  obtain ⟨cs, rfl, hsz⟩ := okWide_struct Tryd.underlying25 hv
  obtain ⟨l⟩ := cs
  obtain ⟨fuel, hf⟩ := h
  have hl : l.length = 5 := by have := hsz.trans (show Tryd.prog.cellsOf 25 = 5 by kernel_rfl); simpa using this
  obtain ⟨t, rfl, ht⟩ := ctup_cells (cs := l) hl hf
  exact ⟨t, rfl, ht⟩
end
end Go.Proofs.YtpidpbjbgjkaaaaDoor
namespace Go.Proofs.YtpidpbjbgjkaaaaDoor
open Go.RowKit
set_option linter.unusedVariables false
theorem cell_lt {w : World} {g i : Nat} {v : Value} (h : w.cell? ⟨g, i, none⟩ = some v) : g < w.heap.size := by
  rcases Nat.lt_or_ge g w.heap.size with h1 | h1
  · exact h1
  · exfalso
    unfold World.cell? at h
    rw [Array.getElem?_eq_none h1] at h
    simp at h
theorem ProxyKnows_walk (A : Option Addr) (n c : Nat) (l : List Int) (x : Cook.Tup) (t : Tcp.T) (ep mss win sv : Int) (w : World) (hT : Tabs w) (hR : Rd w 1 A n (bs l)) (hB : isB l) (hnc : n ≤ c) (hc : c ≤ 9223372036854775807) (hx : x.wf) (ht : t.ok w) (we : (Lit.int .i64 ep).wf = true) (wm : (Lit.int .i64 mss).wf = true) (ww : (Lit.int .i64 win).wf = true) (ws : (Lit.int .u32 sv).wf = true) :
    Calls Tryd.prog 4 #[.slice A n c, .agg #[.int .i64 x.proto, .int .u32 x.src, .int .i64 x.sport, .int .u32 x.dst, .int .i64 x.dport], .agg t.cells.toArray, .int .i64 ep, .int .i64 mss, .int .i64 win, .int .u32 sv] w fun e w' => e = .returned (.bool true) ∧ Below w.heap.size w w' := by
  obtain ⟨s0, s1⟩ := bounds_u32 ws
  exact proxyknows_walk A n c l x hx t ep mss win sv s0 s1 w hT hR hB ht
end Go.Proofs.YtpidpbjbgjkaaaaDoor
