/- api.Peer that came in. -/
import Derived.Test.YtihhcalgjkkalaaOpenS
import Derived.Test.YtihhcalgjkkalaaPeerPlain
import Derived.Test.YtihhcalgjkkalaaChecked
namespace Go.Proofs.Ytihhcalgjkkalaa
open Go.ChangeShapes Go.WideShapes Go.ChangeAt Go.RowKit Go.Deep
set_option linter.unusedVariables false
def Peer.P.cells (p : Peer.P) : List Value := [.int .i64 p.st, .int .i64 p.port, .int .i64 p.to, .int .u32 p.fi, .int .u32 p.un, .int .u32 p.ne, .int .u32 p.wa, .int .i64 p.wi, .int .i64 p.ot, .slice p.d.A p.d.n p.d.c, .slice p.g.A p.g.n p.g.c]
section
variable {H : Type} {enc : TypeId × Value → H} {w : World} {held : Bool}
theorem peer_cells {n : Nat} {cs : List Value} {y : DataW H × List MemPlace} (hl : cs.length = 11) (h : DataW.trod enc Try.prog w 0 (fun _ => true) held n 26 cs = some y) : ∃ p : Peer.P, cs = p.cells ∧ p.ok w := by
  obtain ⟨m, hf⟩ := struct_cells Try.underlying26 (by kernel_rfl) (by simpa using hl) h
  match cs, hl with
  | [c0, c1, c2, c3, c4, c5, c6, c7, c8, c9, c10], _ =>
    obtain ⟨u0, y0, e0, t0⟩ := hf 0 _ rfl
    obtain ⟨u1, y1, e1, t1⟩ := hf 1 _ rfl
    obtain ⟨u2, y2, e2, t2⟩ := hf 2 _ rfl
    obtain ⟨u3, y3, e3, t3⟩ := hf 3 _ rfl
    obtain ⟨u4, y4, e4, t4⟩ := hf 4 _ rfl
    obtain ⟨u5, y5, e5, t5⟩ := hf 5 _ rfl
    obtain ⟨u6, y6, e6, t6⟩ := hf 6 _ rfl
    obtain ⟨u7, y7, e7, t7⟩ := hf 7 _ rfl
    obtain ⟨u8, y8, e8, t8⟩ := hf 8 _ rfl
    obtain ⟨u9, y9, e9, t9⟩ := hf 9 _ rfl
    obtain ⟨u10, y10, e10, t10⟩ := hf 10 _ rfl
    simp only [List.getElem?_cons_zero, List.getElem?_cons_succ, Option.some.injEq] at e0 e1 e2 e3 e4 e5 e6 e7 e8 e9 e10
    subst e0 e1 e2 e3 e4 e5 e6 e7 e8 e9 e10
    obtain ⟨x0, k0, _, w0⟩ := DataW.trod_int Try.underlying3 t0
    obtain ⟨x1, k1, _, w1⟩ := DataW.trod_int Try.underlying3 t1
    obtain ⟨x2, k2, _, w2⟩ := DataW.trod_int Try.underlying3 t2
    obtain ⟨x3, k3, _, w3⟩ := DataW.trod_int Try.underlying22 t3
    obtain ⟨x4, k4, _, w4⟩ := DataW.trod_int Try.underlying22 t4
    obtain ⟨x5, k5, _, w5⟩ := DataW.trod_int Try.underlying22 t5
    obtain ⟨x6, k6, _, w6⟩ := DataW.trod_int Try.underlying22 t6
    obtain ⟨x7, k7, _, w7⟩ := DataW.trod_int Try.underlying3 t7
    obtain ⟨x8, k8, _, w8⟩ := DataW.trod_int Try.underlying3 t8
    obtain ⟨A9, n9, q9, l9, h9, R9, B9, m9, z9⟩ := bytes_of_trod Try.underlying23 Try.underlying5 (by kernel_rfl) t9
    obtain ⟨A10, n10, q10, l10, h10, R10, B10, m10, z10⟩ := bytes_of_trod Try.underlying23 Try.underlying5 (by kernel_rfl) t10
    simp only [List.cons.injEq, and_true] at k0 k1 k2 k3 k4 k5 k6 k7 k8
    subst k0 k1 k2 k3 k4 k5 k6 k7 k8 h9 h10
    exact ⟨⟨x0, x1, x2, x3, x4, x5, x6, x7, x8, ⟨A9, n9, q9, l9⟩, ⟨A10, n10, q10, l10⟩⟩, rfl, ⟨bounds_u32 w3, bounds_u32 w4, bounds_u32 w5, bounds_u32 w6, ⟨R9, B9, Nat.le_trans m9 z9⟩, ⟨R10, B10, Nat.le_trans m10 z10⟩⟩⟩
theorem open_peer {r : Reach} {b0 : Nat} {v : Value} {d : DataW H} {p : List MemPlace} (hv : Value.okWide Try.prog w r b0 26 v) (h : DataW.Trod enc Try.prog w 0 (fun _ => true) held 26 v d p) :
    ∃ q : Peer.P, v = .agg q.cells.toArray ∧ q.ok w := by
  obtain ⟨cs, rfl, hsz⟩ := okWide_struct Try.underlying26 hv
  obtain ⟨l⟩ := cs
  obtain ⟨fuel, hf⟩ := h
  have hl : l.length = 11 := by have := hsz.trans (show Try.prog.cellsOf 26 = 11 by kernel_rfl); simpa using this
  obtain ⟨q, ht, hok⟩ := peer_cells hl hf
  exact ⟨q, by rw [ht], hok⟩
end
end Go.Proofs.Ytihhcalgjkkalaa
