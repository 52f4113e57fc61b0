/- Arguments opened: what is read as data is a list of numbers in memory. No program in sight. Arguments opened: a struct of one-cell fields by value, whatever their number. No program in sight. api.TCP that came in: its options and its body. Strings out of bytes; the walk of bytes.Clone. -/
import Derived.Test.YtpidpbjbgjkaaaaDoorOwn
import Derived.ProofKit
import Derived.ShutString
import Derived.ChangeOld
import Derived.Lib.SmallJoins
import Derived.Deep.Fields
import Derived.Test.YtpidpbjbgjkaaaaDoorChecked
import Derived.Deep.QuietTactic
import Derived.BigQuiet
import Derived.Lib.BufferRead
namespace Go.Proofs.YtpidpbjbgjkaaaaDoor
open Go.ChangeShapes Go.WideShapes Go.ChangeAt Go.RowKit
set_option linter.unusedVariables false
theorem spot_none {w : World} {a : Addr} {v : Value} (h : w.cell? a = some v) : ∃ b off, a = ⟨b, off, none⟩ ∧ b < w.heap.size := by
  have hb := World.block_lt_of_cell? w a h
  obtain ⟨b, off, spot⟩ := a
  cases spot with
  | none => exact ⟨b, off, rfl, hb⟩
  | some s => unfold World.cell? at h; simp at h; split at h <;> simp_all
section
variable {H : Type} {enc : TypeId × Value → H} {P : Program} {W : World} {held : Bool}
theorem ints_of_trod {t e : TypeId} {k : IntKind} {fuel : Nat} {v : Value} {x : DataW H × List MemPlace} (ht : P.underlying t = some (.slice e)) (he : P.underlying e = some (.int k)) (hc : P.cellsOf e = 1)
    (h : DataW.trod enc P W 0 (fun _ => true) held fuel t [v] = some x) :
    ∃ A n c l, v = .slice A n c ∧ Rd W 1 A n (List.map (Value.int k) l) ∧ (∀ z ∈ l, (Lit.int k z).wf = true) ∧ n ≤ c ∧ c ≤ 9223372036854775807 := by
  rcases open_ints ht he hc h with ⟨hcs, _⟩ | ⟨a, len, cap, zs, hcs, _, hl, hm, hz, _, hcell, hwz⟩
  · simp only [List.cons.injEq, and_true] at hcs
    exact ⟨none, 0, 0, [], hcs, Rd.nil_ _, by simp, Nat.le_refl _, by omega⟩
  · simp only [List.cons.injEq, and_true] at hcs
    simp only [if_true] at hz
    refine ⟨some a, len, cap, zs.take len, hcs, ⟨by simp; omega, fun hn => ?_⟩, fun z hz' => hwz z (List.mem_of_mem_take hz'), hl, by unfold maxLen at hm; omega⟩
    have h0 := hcell 0 (by omega)
    rw [show a.add 0 = a from by simp [Addr.add]] at h0
    obtain ⟨b, off, rfl, hb⟩ := spot_none h0
    refine ⟨b, off, rfl, hb, fun j u hu => ?_⟩
    rw [List.getElem?_map, List.getElem?_take] at hu
    split at hu
    · rename_i hj
      have hjz : j < zs.length := by omega
      rw [List.getElem?_eq_getElem hjz] at hu
      simp only [Option.map_some, Option.some.injEq] at hu
      have := hcell j hjz
      rw [add_off] at this
      rw [this, ← hu]; simp [hjz]
    · simp at hu
theorem bytes_of_trod {t e : TypeId} {fuel : Nat} {v : Value} {x : DataW H × List MemPlace} (ht : P.underlying t = some (.slice e)) (he : P.underlying e = some (.int .u8)) (hc : P.cellsOf e = 1)
    (h : DataW.trod enc P W 0 (fun _ => true) held fuel t [v] = some x) :
    ∃ A n c l, v = .slice A n c ∧ Rd W 1 A n (bs l) ∧ isB l ∧ n ≤ c ∧ c ≤ 9223372036854775807 := by
  obtain ⟨A, n, c, l, h1, h2, h3, h4⟩ := ints_of_trod ht he hc h
  exact ⟨A, n, c, l, h1, h2, fun z hz => bounds_u8 (h3 z hz), h4⟩
theorem open_bytes {r : Reach} {b0 : Nat} {t e : TypeId} {v : Value} {d : DataW H} {p : List MemPlace} (ht : P.underlying t = some (.slice e)) (he : P.underlying e = some (.int .u8)) (hc : P.cellsOf e = 1)
    (hv : Value.okWide P W r b0 t v) (h : DataW.Trod enc P W 0 (fun _ => true) held t v d p) :
    ∃ A n c l, v = .slice A n c ∧ Rd W 1 A n (bs l) ∧ isB l ∧ n ≤ c ∧ c ≤ 9223372036854775807 := by
  obtain ⟨a, len, cap, rfl⟩ := okWide_slice ht hv
  obtain ⟨fuel, hf⟩ := h
  exact bytes_of_trod ht he hc hf
theorem open_ints_arg {k : IntKind} {r : Reach} {b0 : Nat} {t e : TypeId} {v : Value} {d : DataW H} {p : List MemPlace} (ht : P.underlying t = some (.slice e)) (he : P.underlying e = some (.int k)) (hc : P.cellsOf e = 1)
    (hv : Value.okWide P W r b0 t v) (h : DataW.Trod enc P W 0 (fun _ => true) held t v d p) :
    ∃ A n c l, v = .slice A n c ∧ Rd W 1 A n (List.map (Value.int k) l) ∧ (∀ z ∈ l, (Lit.int k z).wf = true) ∧ n ≤ c ∧ c ≤ 9223372036854775807 := by
  obtain ⟨a, len, cap, rfl⟩ := okWide_slice ht hv
  obtain ⟨fuel, hf⟩ := h
  exact ints_of_trod ht he hc hf
theorem trod_lt' {t : TypeId} {v : Value} {d : DataW H} {p : List MemPlace} (h : DataW.Trod enc P W 0 (fun _ => true) held t v d p) : ∀ x ∈ p, x.block < W.heap.size := by
  obtain ⟨m, hm⟩ := h; exact DataW.trod_lt m _ _ _ hm
end
end Go.Proofs.YtpidpbjbgjkaaaaDoor
namespace Go.Proofs.YtpidpbjbgjkaaaaDoor
open Go.ChangeShapes Go.WideShapes Go.ChangeAt Go.RowKit Go.Deep
set_option linter.unusedVariables false
section
variable {H : Type} {enc : TypeId × Value → H} {P : Program} {w : World} {base : Nat} {spare : Nat → Bool} {held : Bool}
theorem open_struct {r : Reach} {b0 : Nat} {t : TypeId} {fs : Array Field} {v : Value} {d : DataW H} {p : List MemPlace} (hs : P.underlying t = some (.struct fs)) (hone : oneCellFields P fs = true) (hC : P.cellsOf t = fs.size)
    (hv : Value.okWide P w r b0 t v) (h : DataW.Trod enc P w base spare held t v d p) :
    ∃ (cs : List Value) (n : Nat), v = .agg cs.toArray ∧ cs.length = fs.size ∧ ∀ (j : Nat) (f : Field), fs[j]? = some f → ∃ u y, cs[j]? = some u ∧ DataW.trod enc P w base spare held n f.type [u] = some y := by
  obtain ⟨cs, rfl, hsz⟩ := okWide_struct hs hv
  obtain ⟨l⟩ := cs
  obtain ⟨fuel, hf⟩ := h
  obtain ⟨xs, n, _, hx, _, hlen, hg⟩ := DataW.trod_struct hs hf
  have hl : l.length = fs.size := by have := hsz.trans hC; simpa using this
  refine ⟨l, n, rfl, hl, fun j f hj => ?_⟩
  obtain ⟨ho, hk⟩ := hone_of hone j f hj
  have hjl : j < fs.size := (Array.getElem?_eq_some_iff.1 hj).1
  have h1 := hg j f hj
  simp only [Value.cells] at h1
  rw [ho, hk] at h1
  have hone' : (l.drop j).take 1 = [l[j]'(by omega)] := by rw [List.drop_eq_getElem_cons (by omega)]; rfl
  have hys : xs[j]? = some (xs[j]'(by omega)) := List.getElem?_eq_getElem (by omega)
  refine ⟨l[j]'(by omega), xs[j]'(by omega), List.getElem?_eq_getElem (by omega), ?_⟩
  rw [← hone']
  exact h1.trans hys
/-- the fields of a struct that is read as cells -/
theorem struct_cells {t : TypeId} {fs : Array Field} {fuel : Nat} {cs : List Value} {x : DataW H × List MemPlace} (hs : P.underlying t = some (.struct fs)) (hone : oneCellFields P fs = true) (hl : cs.length = fs.size)
    (hf : DataW.trod enc P w base spare held fuel t cs = some x) :
    ∃ n, ∀ (j : Nat) (f : Field), fs[j]? = some f → ∃ u y, cs[j]? = some u ∧ DataW.trod enc P w base spare held n f.type [u] = some y := by
  obtain ⟨xs, n, _, hx, _, hlen, hg⟩ := DataW.trod_struct hs hf
  refine ⟨n, fun j f hj => ?_⟩
  obtain ⟨ho, hk⟩ := hone_of hone j f hj
  have hjl : j < fs.size := (Array.getElem?_eq_some_iff.1 hj).1
  have h1 := hg j f hj
  rw [ho, hk] at h1
  have hone' : (cs.drop j).take 1 = [cs[j]'(by omega)] := by rw [List.drop_eq_getElem_cons (by omega)]; rfl
  have hys : xs[j]? = some (xs[j]'(by omega)) := List.getElem?_eq_getElem (by omega)
  refine ⟨cs[j]'(by omega), xs[j]'(by omega), List.getElem?_eq_getElem (by omega), ?_⟩
  rw [← hone']
  exact h1.trans hys
/-- a slice of structs (or of whatever takes more cells) that came in, element by element -/
theorem open_rows {α : Type} [Inhabited α] {t e : TypeId} {fuel : Nat} {v : Value} {x : DataW H × List MemPlace} (ht : P.underlying t = some (.slice e)) (k : Nat) (hk : P.cellsOf e = k) (hk0 : 0 < k) (V : α → List Value) (ok : α → Prop)
    (hopen : ∀ (n : Nat) (cs : List Value) (y : DataW H × List MemPlace), cs.length = k → DataW.trod enc P w 0 (fun _ => true) held n e cs = some y → ∃ r : α, cs = V r ∧ ok r)
    (h : DataW.trod enc P w 0 (fun _ => true) held fuel t [v] = some x) :
    ∃ A n c, ∃ l : List α, v = .slice A n c ∧ l.length = n ∧ (∀ r ∈ l, ok r) ∧ (∀ j, j < n → ∃ b off, A = some ⟨b, off, none⟩ ∧ b < w.heap.size ∧ ∀ (i : Nat) (u : Value), (V l[j]!)[i]? = some u → w.cell? ⟨b, off + j * k + i, none⟩ = some u) ∧ n ≤ c ∧ c ≤ 9223372036854775807 := by
  rcases open_slice ht h with ⟨hcs, _⟩ | ⟨a, len, cap, m, n, D, Pl, hcs, _, hl, hm, hmm, _, hx⟩
  · simp only [List.cons.injEq, and_true] at hcs
    exact ⟨none, 0, 0, [], hcs, rfl, by simp, fun j hj => absurd hj (Nat.not_lt_zero _), Nat.le_refl _, by omega⟩
  · simp only [List.cons.injEq, and_true] at hcs
    simp only [if_true] at hmm
    subst hmm
    rw [hk] at hx
    obtain ⟨f, hf⟩ := choose_lt (α := α) (p := fun i r => ok r ∧ (V r).length = k ∧ ∀ (q : Nat) (u : Value), (V r)[q]? = some u → w.cell? ((a.add (i * k)).add q) = some u) (fun i hi => by
      obtain ⟨cs', h1, h2⟩ := hx i hi
      obtain ⟨_, hlen, hcell⟩ := World.cells?_some h1
      obtain ⟨r, rfl, hr⟩ := hopen n cs' _ hlen h2
      exact ⟨r, hr, hlen, fun q u hu => (hcell q (by rw [← hlen]; exact (List.getElem?_eq_some_iff.1 hu).1)).trans hu⟩)
    refine ⟨some a, len, m, (List.range len).map f, hcs, by simp, fun r hr => ?_, fun j hj => ?_, hl, by unfold maxLen at hm; omega⟩
    · simp only [List.mem_map, List.mem_range] at hr
      obtain ⟨j, hj, rfl⟩ := hr
      exact (hf j (by omega)).1
    · obtain ⟨_, hl0, hc0⟩ := hf 0 (by omega)
      have h0 := hc0 0 _ (List.getElem?_eq_getElem (by omega))
      rw [show (a.add (0 * k)).add 0 = a by simp [Addr.add]] at h0
      obtain ⟨b, off, rfl, hb⟩ := spot_none h0
      refine ⟨b, off, rfl, hb, fun i u hu => ?_⟩
      have hj2 : ((List.range len).map f)[j]! = f j := by rw [getElem!_pos _ j (by simpa using hj)]; simp
      rw [hj2] at hu
      have := (hf j (by omega)).2.2 i u hu
      rw [add_off, add_off] at this
      exact this
end
end Go.Proofs.YtpidpbjbgjkaaaaDoor
namespace Go.Proofs.YtpidpbjbgjkaaaaDoor
open Go.ChangeShapes Go.WideShapes Go.ChangeAt Go.RowKit Go.Deep
set_option maxRecDepth 8000
set_option linter.unusedVariables false
namespace Tcp
structure Opt where
  kind : Int
  A : Option Addr
  n : Nat
  c : Nat
  data : List Int
deriving Inhabited
def Opt.cells (o : Opt) : List Value := [.int .i64 o.kind, .slice o.A o.n o.c]
def Opt.ok (w : World) (o : Opt) : Prop := Rd w 1 o.A o.n (bs o.data) ∧ isB o.data ∧ o.n ≤ o.c ∧ o.c ≤ 9223372036854775807 ∧ -9223372036854775808 ≤ o.kind ∧ o.kind ≤ 9223372036854775807
/-- options in memory -/
def OptsRd (w : World) (A : Option Addr) (n : Nat) (l : List Opt) : Prop :=
  l.length = n ∧ (∀ o ∈ l, o.ok w) ∧ (0 < n → ∃ b off, A = some ⟨b, off, none⟩ ∧ b < w.heap.size ∧ ∀ j o, l[j]? = some o → w.cell? ⟨b, off + j * 2, none⟩ = some (.int .i64 o.kind) ∧ w.cell? ⟨b, off + j * 2 + 1, none⟩ = some (.slice o.A o.n o.c))
structure T where
  sp : Int
  dp : Int
  sq : Int
  ak : Int
  fl : Int
  wi : Int
  ur : Int
  Ao : Option Addr
  no : Nat
  co : Nat
  Ab : Option Addr
  nb : Nat
  cb : Nat
  opts : List Opt
  body : List Int
deriving Inhabited
def T.cells (t : T) : List Value := [.int .i64 t.sp, .int .i64 t.dp, .int .u32 t.sq, .int .u32 t.ak, .int .i64 t.fl, .int .i64 t.wi, .int .i64 t.ur, .slice t.Ao t.no t.co, .slice t.Ab t.nb t.cb]
structure T.ok (w : World) (t : T) : Prop where
  sq : 0 ≤ t.sq ∧ t.sq ≤ 4294967295
  ak : 0 ≤ t.ak ∧ t.ak ≤ 4294967295
  fl : -9223372036854775808 ≤ t.fl ∧ t.fl ≤ 9223372036854775807
  wi : -9223372036854775808 ≤ t.wi ∧ t.wi ≤ 9223372036854775807
  opts : OptsRd w t.Ao t.no t.opts
  noc : t.no ≤ t.co
  coc : t.co ≤ 9223372036854775807
  body : Rd w 1 t.Ab t.nb (bs t.body)
  isb : isB t.body
  nbc : t.nb ≤ t.cb
  cbc : t.cb ≤ 9223372036854775807
theorem Opt.ok.below {w w' : World} {o : Opt} (h : o.ok w) (hb : Below w.heap.size w w') : o.ok w' := ⟨h.1.below hb, h.2⟩
theorem OptsRd.below {w w' : World} {A : Option Addr} {n : Nat} {l : List Opt} (h : OptsRd w A n l) (hb : Below w.heap.size w w') : OptsRd w' A n l := by
  refine ⟨h.1, fun o ho => (h.2.1 o ho).below hb, fun hn => ?_⟩
  obtain ⟨b, off, e, hl, hc⟩ := h.2.2 hn
  exact ⟨b, off, e, Nat.lt_of_lt_of_le hl hb.size, fun j o ho => ⟨(hb.cell (p := ⟨b, off + j * 2, none⟩) hl).trans (hc j o ho).1, (hb.cell (p := ⟨b, off + j * 2 + 1, none⟩) hl).trans (hc j o ho).2⟩⟩
theorem T.ok.below {w w' : World} {t : T} (h : t.ok w) (hb : Below w.heap.size w w') : t.ok w' :=
  ⟨h.sq, h.ak, h.fl, h.wi, h.opts.below hb, h.noc, h.coc, h.body.below hb, h.isb, h.nbc, h.cbc⟩
end Tcp
section
variable {H : Type} {enc : TypeId × Value → H} {w : World} {held : Bool}
theorem opt_cells {n : Nat} {cs : List Value} {y : DataW H × List MemPlace} (hl : cs.length = 2) (h : DataW.trod enc Tryd.prog w 0 (fun _ => true) held n 62 cs = some y) : ∃ o : Tcp.Opt, cs = o.cells ∧ o.ok w := by
  obtain ⟨m, hf⟩ := struct_cells Tryd.underlying62 (by kernel_rfl) (by simpa using hl) h
  match cs, hl with
  | [c0, c1], _ =>
    obtain ⟨u0, y0, e0, t0⟩ := hf 0 _ rfl
    obtain ⟨u1, y1, e1, t1⟩ := hf 1 _ rfl
    simp only [List.getElem?_cons_zero, List.getElem?_cons_succ, Option.some.injEq] at e0 e1
    subst e0 e1
    obtain ⟨x0, k0, _, w0⟩ := DataW.trod_int Tryd.underlying3 t0
    obtain ⟨A, n1, c1, l, hv, hR, hB, hnc, hcc⟩ := bytes_of_trod Tryd.underlying27 Tryd.underlying5 (by kernel_rfl) t1
    simp only [List.cons.injEq, and_true] at k0
    subst k0
    exact ⟨⟨x0, A, n1, c1, l⟩, by rw [hv]; rfl, hR, hB, hnc, hcc, bounds_i64 w0⟩
theorem opts_of_trod {fuel : Nat} {v : Value} {x : DataW H × List MemPlace} (hf : DataW.trod enc Tryd.prog w 0 (fun _ => true) held fuel 26 [v] = some x) :
    ∃ A n c l, v = .slice A n c ∧ Tcp.OptsRd w A n l ∧ n ≤ c ∧ c ≤ 9223372036854775807 := by
  obtain ⟨A, n, c, l, hvs, hl, hok, hc, hnc, hcc⟩ := open_rows Tryd.underlying26 2 (by kernel_rfl) (by decide) Tcp.Opt.cells (Tcp.Opt.ok w) (fun n cs y hl h => opt_cells hl h) hf
  refine ⟨A, n, c, l, hvs, ⟨hl, hok, fun hn => ?_⟩, hnc, hcc⟩
  obtain ⟨b, off, hA, hb, _⟩ := hc 0 hn
  refine ⟨b, off, hA, hb, fun j o ho => ?_⟩
  have hj : j < l.length := (List.getElem?_eq_some_iff.1 ho).1
  obtain ⟨b', off', hA', _, hcell⟩ := hc j (by omega)
  rw [hA] at hA'
  injection hA' with hA'
  injection hA' with e1 e2
  subst e1 e2
  have hj2 : l[j]! = o := by rw [getElem!_pos l j hj]; exact (List.getElem?_eq_some_iff.1 ho).2
  rw [hj2] at hcell
  exact ⟨hcell 0 _ rfl, hcell 1 _ rfl⟩
theorem tcp_cells {n : Nat} {cs : List Value} {y : DataW H × List MemPlace} (hl : cs.length = 9) (h : DataW.trod enc Tryd.prog w 0 (fun _ => true) held n 29 cs = some y) : ∃ t : Tcp.T, cs = t.cells ∧ t.ok w := by
  obtain ⟨m, hf⟩ := struct_cells Tryd.underlying29 (by kernel_rfl) (by simpa using hl) h
  match cs, hl with
  | [c0, c1, c2, c3, c4, c5, c6, c7, c8], _ =>
    obtain ⟨u0, y0, e0, t0⟩ := hf 0 _ rfl
    obtain ⟨u1, y1, e1, t1⟩ := hf 1 _ rfl
    obtain ⟨u2, y2, e2, t2⟩ := hf 2 _ rfl
    obtain ⟨u3, y3, e3, t3⟩ := hf 3 _ rfl
    obtain ⟨u4, y4, e4, t4⟩ := hf 4 _ rfl
    obtain ⟨u5, y5, e5, t5⟩ := hf 5 _ rfl
    obtain ⟨u6, y6, e6, t6⟩ := hf 6 _ rfl
    obtain ⟨u7, y7, e7, t7⟩ := hf 7 _ rfl
    obtain ⟨u8, y8, e8, t8⟩ := hf 8 _ rfl
    simp only [List.getElem?_cons_zero, List.getElem?_cons_succ, Option.some.injEq] at e0 e1 e2 e3 e4 e5 e6 e7 e8
    subst e0 e1 e2 e3 e4 e5 e6 e7 e8
    obtain ⟨x0, k0, _, w0⟩ := DataW.trod_int Tryd.underlying3 t0
    obtain ⟨x1, k1, _, w1⟩ := DataW.trod_int Tryd.underlying3 t1
    obtain ⟨x2, k2, _, w2⟩ := DataW.trod_int Tryd.underlying23 t2
    obtain ⟨x3, k3, _, w3⟩ := DataW.trod_int Tryd.underlying23 t3
    obtain ⟨x4, k4, _, w4⟩ := DataW.trod_int Tryd.underlying3 t4
    obtain ⟨x5, k5, _, w5⟩ := DataW.trod_int Tryd.underlying3 t5
    obtain ⟨x6, k6, _, w6⟩ := DataW.trod_int Tryd.underlying3 t6
    obtain ⟨Ao, no, co, lo, ho, hO, hno, hco⟩ := opts_of_trod t7
    obtain ⟨Ab, nb, cb, lb, hb, hR, hB, hnb, hcb⟩ := bytes_of_trod Tryd.underlying27 Tryd.underlying5 (by kernel_rfl) t8
    simp only [List.cons.injEq, and_true] at k0 k1 k2 k3 k4 k5 k6
    subst k0 k1 k2 k3 k4 k5 k6 ho hb
    exact ⟨⟨x0, x1, x2, x3, x4, x5, x6, Ao, no, co, Ab, nb, cb, lo, lb⟩, rfl, ⟨bounds_u32 w2, bounds_u32 w3, bounds_i64 w4, bounds_i64 w5, hO, hno, hco, hR, hB, hnb, hcb⟩⟩
theorem open_tcp {r : Reach} {b0 : Nat} {v : Value} {d : DataW H} {p : List MemPlace} (hv : Value.okWide Tryd.prog w r b0 29 v) (h : DataW.Trod enc Tryd.prog w 0 (fun _ => true) held 29 v d p) :
    ∃ t : Tcp.T, v = .agg t.cells.toArray ∧ t.ok w := by
  obtain ⟨cs, rfl, hsz⟩ := okWide_struct Tryd.underlying29 hv
  obtain ⟨l⟩ := cs
  obtain ⟨fuel, hf⟩ := h
  have hl : l.length = 9 := by have := hsz.trans (show Tryd.prog.cellsOf 29 = 9 by kernel_rfl); simpa using this
  obtain ⟨t, ht, hok⟩ := tcp_cells hl hf
  exact ⟨t, by rw [ht], hok⟩
end
end Go.Proofs.YtpidpbjbgjkaaaaDoor
namespace Go.Proofs.YtpidpbjbgjkaaaaDoor
open Go.RowKit
set_option linter.unusedVariables false
/-- What a call leaves that answers n bytes in a slice which it made or appended to: blocks from a0's size on. -/
def RetB (a0 : World) (e : TypeId) (n : Nat) (l : List Int) (en : Ending) (w' : World) : Prop :=
  ∃ A c, en = .returned (.slice A n c) ∧ w'.ownsRow a0.heap.size e 1 (.slice A n c) n (bs l) ∧ Below a0.heap.size a0 w'
theorem bytes_info8 : (Tryd.prog.info? 5).map (fun i => (i.zero, i.size, i.bytes)) = some (some (.int .u8 0), 1, 1) := by kernel_rfl
def strOf (l : List Int) : ByteArray := l.foldl (fun r n => r.push (UInt8.ofNat n.toNat)) ByteArray.empty
theorem strOf_toList (l : List Int) : ∀ r : ByteArray, (l.foldl (fun r n => r.push (UInt8.ofNat n.toNat)) r).data.toList = r.data.toList ++ l.map fun n => UInt8.ofNat n.toNat := by
  induction l with
  | nil => intro r; simp
  | cons x t ih =>
    intro r
    rw [List.foldl_cons, ih]
    simp [ByteArray.push]
theorem strOf_inj {a b : List Int} (ha : isB a) (hb : isB b) (h : strOf a = strOf b) : a = b := by
  have h1 := congrArg (fun s : ByteArray => s.data.toList) h
  simp only [strOf, strOf_toList] at h1
  have h2 : a.map (fun n => UInt8.ofNat n.toNat) = b.map fun n => UInt8.ofNat n.toNat := by simpa using h1
  have h3 : ∀ l : List Int, isB l → (l.map (fun n => UInt8.ofNat n.toNat)).map (fun u => (u.toNat : Int)) = l := by
    intro l hl
    rw [List.map_map]
    conv => rhs; rw [← List.map_id l]
    apply List.map_congr_left
    intro x hx
    have := hl x hx
    simp only [Function.comp, UInt8.toNat_ofNat', id]
    omega
  rw [← h3 a ha, h2, h3 b hb]
theorem strOf_eq {a b : List Int} (ha : isB a) (hb : isB b) : ((strOf a).toList == (strOf b).toList) = (a == b) := by
  rw [Bool.eq_iff_iff, beq_iff_eq, beq_iff_eq, ByteArray.toList_eq, ByteArray.toList_eq]
  refine ⟨fun h => strOf_inj ha hb ?_, fun h => by rw [h]⟩
  have h2 : (strOf a).data = (strOf b).data := by
    apply Array.toList_inj.1; exact h
  cases ha' : strOf a; cases hb' : strOf b
  rw [ha', hb'] at h2
  simp only at h2
  rw [h2]
section
variable {P : Program} (w : World)
theorem run_str_of_bytes (src dst e : TypeId) (hs : P.underlying src = some (.slice e)) (he : P.underlying e = some (.int .u8)) (hd : P.underlying dst = some .string) (A : Option Addr) (n c : Nat) (l : List Int)
    (h : Rd w 1 A n (bs l)) : (convert src dst (.slice A n c)).run P w = .ok (.string (strOf l)) w := by
  have hl := h.blen
  rw [run_convert_bytes_string w src dst e A n c hs he hd]
  rcases A with _ | ad
  · have hn : n = 0 := by
      rcases Nat.eq_zero_or_pos n with h0 | h0
      · exact h0
      · obtain ⟨b, off, h1, _⟩ := h.2 h0; cases h1
    subst hn
    obtain rfl : l = [] := List.eq_nil_of_length_eq_zero hl
    have := Lib.run_convert_nil_bytes (P := P) w src dst e c hs he hd
    rw [run_convert_bytes_string w src dst e none 0 c hs he hd] at this
    exact this
  · have hc : ∀ j v, (bs l)[j]? = some v → w.cell? (ad.add j) = some v := by
      intro j v hv
      rcases Nat.eq_zero_or_pos n with h0 | h0
      · subst h0
        obtain rfl : l = [] := List.eq_nil_of_length_eq_zero hl
        simp [bs] at hv
      · obtain ⟨b, off, h1, _, h2⟩ := h.2 h0
        injection h1 with h1
        subst h1
        rw [add_off]; exact h2 j v hv
    have hrun := run_loadCells_list (P := P) w ad (bs l) hc
    rw [bs_len, hl] at hrun
    exact run_bytesToString w ad n c l hrun
end
set_option maxHeartbeats 400000 in
theorem bytes_clone (A : Option Addr) (n c : Nat) (l : List Int) (w : World) (h : Rd w 1 A n (bs l)) (hn : n ≤ 140737488355328) :
    Calls Tryd.prog 49 #[.slice A n c] w (RetB w 5 n l) := by
  have q := fun (W : World) => Lib.run_eql_slice_nil (P := Tryd.prog) W 27 5 A n c 0 0 Tryd.underlying27
  rcases A with _ | ad
  · have hn0 : n = 0 := by
      rcases Nat.eq_zero_or_pos n with h0 | h0
      · exact h0
      · obtain ⟨b, off, h1, _⟩ := h.2 h0; cases h1
    subst hn0
    obtain rfl : l = [] := List.eq_nil_of_length_eq_zero h.blen
    clear h
    go_enter Tryd.func49, Tryd.ntmps49
    go_wp2
    go_ret
    exact ⟨none, 0, rfl, World.ownsRow_nil _ _ _ _, Below.refl _ _⟩
  · have h := Lib.hid h
    go_enter Tryd.func49, Tryd.ntmps49
    go_wp2_with (at_builtin; refine wpList_app0 _ rfl (.tmp 5) (.tmp 6) 27 rfl w (by exact Below.refl _ _) 5 (.int .u8 0) 1 1 Tryd.underlying27 bytes_info8 rfl (by decide) rfl (some ad) n c (bs l) rfl (by exact h.out) (one_bs _) (by unfold maxLen; omega) (by omega) ?_; intro A1 c1 w2 hown1 hbel1 hg1 hat1)
    go_ret
    exact ⟨A1, c1, rfl, hown1, hbel1⟩
end Go.Proofs.YtpidpbjbgjkaaaaDoor
