/- api.TCP that came in: its options and its body. -/
import Derived.Test.YtihhcalgjkkalaaOpenS
import Derived.Test.YtihhcalgjkkalaaChecked
namespace Go.Proofs.Ytihhcalgjkkalaa
open Go.ChangeShapes Go.WideShapes Go.ChangeAt Go.RowKit Go.Deep
set_option maxRecDepth 8000
set_option linter.unusedVariables false
namespace Tcp
structure Opt where
  kind : Int
  A : Option Addr
  n : Nat
  c : Nat
  data : List Int
deriving Inhabited
def Opt.cells (o : Opt) : List Value := [.int .i64 o.kind, .slice o.A o.n o.c]
def Opt.ok (w : World) (o : Opt) : Prop := Rd w 1 o.A o.n (bs o.data) ∧ isB o.data ∧ o.n ≤ o.c ∧ o.c ≤ 9223372036854775807 ∧ -9223372036854775808 ≤ o.kind ∧ o.kind ≤ 9223372036854775807
/-- options in memory -/
def OptsRd (w : World) (A : Option Addr) (n : Nat) (l : List Opt) : Prop :=
  l.length = n ∧ (∀ o ∈ l, o.ok w) ∧ (0 < n → ∃ b off, A = some ⟨b, off, none⟩ ∧ b < w.heap.size ∧ ∀ j o, l[j]? = some o → w.cell? ⟨b, off + j * 2, none⟩ = some (.int .i64 o.kind) ∧ w.cell? ⟨b, off + j * 2 + 1, none⟩ = some (.slice o.A o.n o.c))
structure T where
  sp : Int
  dp : Int
  sq : Int
  ak : Int
  fl : Int
  wi : Int
  ur : Int
  Ao : Option Addr
  no : Nat
  co : Nat
  Ab : Option Addr
  nb : Nat
  cb : Nat
  opts : List Opt
  body : List Int
deriving Inhabited
def T.cells (t : T) : List Value := [.int .i64 t.sp, .int .i64 t.dp, .int .u32 t.sq, .int .u32 t.ak, .int .i64 t.fl, .int .i64 t.wi, .int .i64 t.ur, .slice t.Ao t.no t.co, .slice t.Ab t.nb t.cb]
structure T.ok (w : World) (t : T) : Prop where
  sq : 0 ≤ t.sq ∧ t.sq ≤ 4294967295
  ak : 0 ≤ t.ak ∧ t.ak ≤ 4294967295
  fl : -9223372036854775808 ≤ t.fl ∧ t.fl ≤ 9223372036854775807
  wi : -9223372036854775808 ≤ t.wi ∧ t.wi ≤ 9223372036854775807
  opts : OptsRd w t.Ao t.no t.opts
  noc : t.no ≤ t.co
  coc : t.co ≤ 9223372036854775807
  body : Rd w 1 t.Ab t.nb (bs t.body)
  isb : isB t.body
  nbc : t.nb ≤ t.cb
  cbc : t.cb ≤ 9223372036854775807
theorem Opt.ok.below {w w' : World} {o : Opt} (h : o.ok w) (hb : Below w.heap.size w w') : o.ok w' := ⟨h.1.below hb, h.2⟩
theorem OptsRd.below {w w' : World} {A : Option Addr} {n : Nat} {l : List Opt} (h : OptsRd w A n l) (hb : Below w.heap.size w w') : OptsRd w' A n l := by
  refine ⟨h.1, fun o ho => (h.2.1 o ho).below hb, fun hn => ?_⟩
  obtain ⟨b, off, e, hl, hc⟩ := h.2.2 hn
  exact ⟨b, off, e, Nat.lt_of_lt_of_le hl hb.size, fun j o ho => ⟨(hb.cell (p := ⟨b, off + j * 2, none⟩) hl).trans (hc j o ho).1, (hb.cell (p := ⟨b, off + j * 2 + 1, none⟩) hl).trans (hc j o ho).2⟩⟩
theorem T.ok.below {w w' : World} {t : T} (h : t.ok w) (hb : Below w.heap.size w w') : t.ok w' :=
  ⟨h.sq, h.ak, h.fl, h.wi, h.opts.below hb, h.noc, h.coc, h.body.below hb, h.isb, h.nbc, h.cbc⟩
end Tcp
section
variable {H : Type} {enc : TypeId × Value → H} {w : World} {held : Bool}
theorem opt_cells {n : Nat} {cs : List Value} {y : DataW H × List MemPlace} (hl : cs.length = 2) (h : DataW.trod enc Try.prog w 0 (fun _ => true) held n 58 cs = some y) : ∃ o : Tcp.Opt, cs = o.cells ∧ o.ok w := by
  obtain ⟨m, hf⟩ := struct_cells Try.underlying58 (by kernel_rfl) (by simpa using hl) h
  match cs, hl with
  | [c0, c1], _ =>
    obtain ⟨u0, y0, e0, t0⟩ := hf 0 _ rfl
    obtain ⟨u1, y1, e1, t1⟩ := hf 1 _ rfl
    simp only [List.getElem?_cons_zero, List.getElem?_cons_succ, Option.some.injEq] at e0 e1
    subst e0 e1
    obtain ⟨x0, k0, _, w0⟩ := DataW.trod_int Try.underlying3 t0
    obtain ⟨A, n1, c1, l, hv, hR, hB, hnc, hcc⟩ := bytes_of_trod Try.underlying23 Try.underlying5 (by kernel_rfl) t1
    simp only [List.cons.injEq, and_true] at k0
    subst k0
    exact ⟨⟨x0, A, n1, c1, l⟩, by rw [hv]; rfl, hR, hB, hnc, hcc, bounds_i64 w0⟩
theorem opts_of_trod {fuel : Nat} {v : Value} {x : DataW H × List MemPlace} (hf : DataW.trod enc Try.prog w 0 (fun _ => true) held fuel 35 [v] = some x) :
    ∃ A n c l, v = .slice A n c ∧ Tcp.OptsRd w A n l ∧ n ≤ c ∧ c ≤ 9223372036854775807 := by
  obtain ⟨A, n, c, l, hvs, hl, hok, hc, hnc, hcc⟩ := open_rows Try.underlying35 2 (by kernel_rfl) (by decide) Tcp.Opt.cells (Tcp.Opt.ok w) (fun n cs y hl h => opt_cells hl h) hf
  refine ⟨A, n, c, l, hvs, ⟨hl, hok, fun hn => ?_⟩, hnc, hcc⟩
  obtain ⟨b, off, hA, hb, _⟩ := hc 0 hn
  refine ⟨b, off, hA, hb, fun j o ho => ?_⟩
  have hj : j < l.length := (List.getElem?_eq_some_iff.1 ho).1
  obtain ⟨b', off', hA', _, hcell⟩ := hc j (by omega)
  rw [hA] at hA'
  injection hA' with hA'
  injection hA' with e1 e2
  subst e1 e2
  have hj2 : l[j]! = o := by rw [getElem!_pos l j hj]; exact (List.getElem?_eq_some_iff.1 ho).2
  rw [hj2] at hcell
  exact ⟨hcell 0 _ rfl, hcell 1 _ rfl⟩
theorem tcp_cells {n : Nat} {cs : List Value} {y : DataW H × List MemPlace} (hl : cs.length = 9) (h : DataW.trod enc Try.prog w 0 (fun _ => true) held n 37 cs = some y) : ∃ t : Tcp.T, cs = t.cells ∧ t.ok w := by
  obtain ⟨m, hf⟩ := struct_cells Try.underlying37 (by kernel_rfl) (by simpa using hl) h
  match cs, hl with
  | [c0, c1, c2, c3, c4, c5, c6, c7, c8], _ =>
    obtain ⟨u0, y0, e0, t0⟩ := hf 0 _ rfl
    obtain ⟨u1, y1, e1, t1⟩ := hf 1 _ rfl
    obtain ⟨u2, y2, e2, t2⟩ := hf 2 _ rfl
    obtain ⟨u3, y3, e3, t3⟩ := hf 3 _ rfl
    obtain ⟨u4, y4, e4, t4⟩ := hf 4 _ rfl
    obtain ⟨u5, y5, e5, t5⟩ := hf 5 _ rfl
    obtain ⟨u6, y6, e6, t6⟩ := hf 6 _ rfl
    obtain ⟨u7, y7, e7, t7⟩ := hf 7 _ rfl
    obtain ⟨u8, y8, e8, t8⟩ := hf 8 _ rfl
    simp only [List.getElem?_cons_zero, List.getElem?_cons_succ, Option.some.injEq] at e0 e1 e2 e3 e4 e5 e6 e7 e8
    subst e0 e1 e2 e3 e4 e5 e6 e7 e8
    obtain ⟨x0, k0, _, w0⟩ := DataW.trod_int Try.underlying3 t0
    obtain ⟨x1, k1, _, w1⟩ := DataW.trod_int Try.underlying3 t1
    obtain ⟨x2, k2, _, w2⟩ := DataW.trod_int Try.underlying22 t2
    obtain ⟨x3, k3, _, w3⟩ := DataW.trod_int Try.underlying22 t3
    obtain ⟨x4, k4, _, w4⟩ := DataW.trod_int Try.underlying3 t4
    obtain ⟨x5, k5, _, w5⟩ := DataW.trod_int Try.underlying3 t5
    obtain ⟨x6, k6, _, w6⟩ := DataW.trod_int Try.underlying3 t6
    obtain ⟨Ao, no, co, lo, ho, hO, hno, hco⟩ := opts_of_trod t7
    obtain ⟨Ab, nb, cb, lb, hb, hR, hB, hnb, hcb⟩ := bytes_of_trod Try.underlying23 Try.underlying5 (by kernel_rfl) t8
    simp only [List.cons.injEq, and_true] at k0 k1 k2 k3 k4 k5 k6
    subst k0 k1 k2 k3 k4 k5 k6 ho hb
    exact ⟨⟨x0, x1, x2, x3, x4, x5, x6, Ao, no, co, Ab, nb, cb, lo, lb⟩, rfl, ⟨bounds_u32 w2, bounds_u32 w3, bounds_i64 w4, bounds_i64 w5, hO, hno, hco, hR, hB, hnb, hcb⟩⟩
theorem open_tcp {r : Reach} {b0 : Nat} {v : Value} {d : DataW H} {p : List MemPlace} (hv : Value.okWide Try.prog w r b0 37 v) (h : DataW.Trod enc Try.prog w 0 (fun _ => true) held 37 v d p) :
    ∃ t : Tcp.T, v = .agg t.cells.toArray ∧ t.ok w := by
  obtain ⟨cs, rfl, hsz⟩ := okWide_struct Try.underlying37 hv
  obtain ⟨l⟩ := cs
  obtain ⟨fuel, hf⟩ := h
  have hl : l.length = 9 := by have := hsz.trans (show Try.prog.cellsOf 37 = 9 by kernel_rfl); simpa using this
  obtain ⟨t, ht, hok⟩ := tcp_cells hl hf
  exact ⟨t, by rw [ht], hok⟩
end
end Go.Proofs.Ytihhcalgjkkalaa
