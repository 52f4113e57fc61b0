/- api.Cell, []api.Cell, api.Tuple that came in. -/
import Derived.Test.YtdboehogkmidbaaOpenS
import Derived.Test.YtdboehogkmidbaaIdxTab
import Derived.Test.YtdboehogkmidbaaChecked
namespace Go.Proofs.Ytdboehogkmidbaa
open Go.ChangeShapes Go.WideShapes Go.ChangeAt Go.RowKit Go.Deep
set_option maxRecDepth 8000
set_option linter.unusedVariables false
section
variable {H : Type} {enc : TypeId × Value → H} {w : World} {held : Bool}
theorem struct_parts {P : Program} {base : Nat} {spare : Nat → Bool} {t : TypeId} {fs : Array Field} {fuel : Nat} {cs : List Value} {x : DataW H × List MemPlace} (hs : P.underlying t = some (.struct fs))
    (hf : DataW.trod enc P w base spare held fuel t cs = some x) :
    ∃ n, ∀ (j : Nat) (f : Field), fs[j]? = some f → ∃ y, DataW.trod enc P w base spare held n f.type ((cs.drop f.offset).take (P.cellsOf f.type)) = some y := by
  obtain ⟨xs, n, _, hx, _, hlen, hg⟩ := DataW.trod_struct hs hf
  refine ⟨n, fun j f hj => ?_⟩
  have hjl : j < fs.size := (Array.getElem?_eq_some_iff.1 hj).1
  have hys : xs[j]? = some (xs[j]'(by omega)) := List.getElem?_eq_getElem (by omega)
  exact ⟨_, (hg j f hj).trans hys⟩
theorem key_cells {n : Nat} {cs : List Value} {y : DataW H × List MemPlace} (hl : cs.length = 5) (h : DataW.trod enc Try.prog w 0 (fun _ => true) held n 29 cs = some y) : ∃ k : Idx.Key, cs = [.int .i64 k.pr, .int .u32 k.sr, .int .i64 k.sp, .int .u32 k.ds, .int .i64 k.dp] ∧ k.wf := by
  obtain ⟨m, hf⟩ := struct_cells Try.underlying29 (by kernel_rfl) (by simpa using hl) h
  match cs, hl with
  | [c0, c1, c2, c3, c4], _ =>
    obtain ⟨u0, y0, e0, t0⟩ := hf 0 _ rfl
    obtain ⟨u1, y1, e1, t1⟩ := hf 1 _ rfl
    obtain ⟨u2, y2, e2, t2⟩ := hf 2 _ rfl
    obtain ⟨u3, y3, e3, t3⟩ := hf 3 _ rfl
    obtain ⟨u4, y4, e4, t4⟩ := hf 4 _ rfl
    simp only [List.getElem?_cons_zero, List.getElem?_cons_succ, Option.some.injEq] at e0 e1 e2 e3 e4
    subst e0 e1 e2 e3 e4
    obtain ⟨x0, k0, _, w0⟩ := DataW.trod_int Try.underlying3 t0
    obtain ⟨x1, k1, _, w1⟩ := DataW.trod_int Try.underlying27 t1
    obtain ⟨x2, k2, _, w2⟩ := DataW.trod_int Try.underlying3 t2
    obtain ⟨x3, k3, _, w3⟩ := DataW.trod_int Try.underlying27 t3
    obtain ⟨x4, k4, _, w4⟩ := DataW.trod_int Try.underlying3 t4
    simp only [List.cons.injEq, and_true] at k0 k1 k2 k3 k4
    subst k0 k1 k2 k3 k4
    exact ⟨⟨x0, x1, x2, x3, x4⟩, rfl, bounds_u32 w1, bounds_u32 w3⟩
theorem ccell_cells {T : TypeId} {fs : Array Field} {f0 f1 f2 : Field} (hs : Try.prog.underlying T = some (.struct fs)) (h0 : fs[0]? = some f0) (h1 : fs[1]? = some f1) (h2 : fs[2]? = some f2) (o0 : f0.offset = 0) (o1 : f1.offset = 1) (o2 : f2.offset = 6)
    (t0 : f0.type = 4) (t1 : f1.type = 29) (t2 : f2.type = 3) {n : Nat} {cs : List Value} {y : DataW H × List MemPlace} (hl : cs.length = 7) (h : DataW.trod enc Try.prog w 0 (fun _ => true) held n T cs = some y) : ∃ c : Idx.Cell, cs = c.cells ∧ c.k.wf := by
  obtain ⟨m, hf⟩ := struct_parts hs h
  match cs, hl with
  | [c0, c1, c2, c3, c4, c5, c6], _ =>
    obtain ⟨y0, e0⟩ := hf 0 f0 h0
    obtain ⟨y1, e1⟩ := hf 1 f1 h1
    obtain ⟨y2, e2⟩ := hf 2 f2 h2
    rw [o0, t0, show Try.prog.cellsOf 4 = 1 by kernel_rfl] at e0
    rw [o1, t1, show Try.prog.cellsOf 29 = 5 by kernel_rfl] at e1
    rw [o2, t2, show Try.prog.cellsOf 3 = 1 by kernel_rfl] at e2
    simp only [List.drop_zero, List.drop_succ_cons, List.take_succ_cons, List.take_zero] at e0 e1 e2
    obtain ⟨b, k0, _⟩ := DataW.trod_bool Try.underlying4 e0
    obtain ⟨k, hk, hw⟩ := key_cells rfl e1
    obtain ⟨x2, k2, _, w2⟩ := DataW.trod_int Try.underlying3 e2
    simp only [List.cons.injEq, and_true] at k0 k2 hk
    obtain ⟨r1, r2, r3, r4, r5⟩ := hk
    subst k0 k2 r1 r2 r3 r4 r5
    exact ⟨⟨b, k, x2⟩, rfl, hw⟩
theorem open_key {r : Reach} {b0 : Nat} {v : Value} {d : DataW H} {p : List MemPlace} (hv : Value.okWide Try.prog w r b0 29 v) (h : DataW.Trod enc Try.prog w 0 (fun _ => true) held 29 v d p) :
    ∃ k : Idx.Key, v = .agg #[.int .i64 k.pr, .int .u32 k.sr, .int .i64 k.sp, .int .u32 k.ds, .int .i64 k.dp] ∧ k.wf := by
  obtain ⟨cs, rfl, hsz⟩ := okWide_struct Try.underlying29 hv
  obtain ⟨l⟩ := cs
  obtain ⟨fuel, hf⟩ := h
  have hl : l.length = 5 := by have := hsz.trans (show Try.prog.cellsOf 29 = 5 by kernel_rfl); simpa using this
  obtain ⟨t, rfl, ht⟩ := key_cells (cs := l) hl hf
  exact ⟨t, rfl, ht⟩
theorem open_tab {T E : TypeId} {fs : Array Field} {f0 f1 f2 : Field} (hT : Try.prog.underlying T = some (.slice E)) (hk : Try.prog.cellsOf E = 7) (hs : Try.prog.underlying E = some (.struct fs)) (h0 : fs[0]? = some f0) (h1 : fs[1]? = some f1) (h2 : fs[2]? = some f2) (o0 : f0.offset = 0) (o1 : f1.offset = 1) (o2 : f2.offset = 6)
    (t0 : f0.type = 4) (t1 : f1.type = 29) (t2 : f2.type = 3) {r : Reach} {b0 : Nat} {v : Value} {d : DataW H} {p : List MemPlace} (hv : Value.okWide Try.prog w r b0 T v) (h : DataW.Trod enc Try.prog w 0 (fun _ => true) held T v d p) :
    ∃ A n c, ∃ l : List Idx.Cell, v = .slice A n c ∧ TabR w A n l ∧ n ≤ c ∧ c ≤ 9223372036854775807 := by
  obtain ⟨a, len, cap, rfl⟩ := okWide_slice hT hv
  obtain ⟨fuel, hf⟩ := h
  haveI : Inhabited Idx.Cell := ⟨Idx.Cell.nil⟩
  obtain ⟨A, n, c, l, hvs, hl, hok, hc, hnc, hcc⟩ := open_rows hT 7 hk (by decide) Idx.Cell.cells (fun c => c.k.wf) (fun n cs y hl h => ccell_cells hs h0 h1 h2 o0 o1 o2 t0 t1 t2 hl h) hf
  refine ⟨A, n, c, l, hvs, ⟨hl, hok, by rw [tcells_len, hl], fun hn => ?_⟩, hnc, hcc⟩
  obtain ⟨b, off, hA, hb, _⟩ := hc 0 hn
  refine ⟨b, off, hA, hb, fun j u hu => ?_⟩
  have hj : j < n * 7 := by have := (List.getElem?_eq_some_iff.1 hu).1; rw [tcells_len, hl] at this; exact this
  obtain ⟨b', off', hA', _, hcell⟩ := hc (j / 7) (by omega)
  rw [hA] at hA'
  injection hA' with hA'
  injection hA' with e1 e2
  subst e1 e2
  have hat : l[j / 7]! = Idx.at' l (j / 7) := by rw [Idx.at_lt (by omega), getElem!_pos l (j / 7) (by omega)]
  rw [hat] at hcell
  obtain ⟨v, hv7⟩ : ∃ v, (Idx.at' l (j / 7)).cells[j % 7]? = some v := ⟨_, List.getElem?_eq_getElem (by show j % 7 < 7; omega)⟩
  have e := tcells_get l (j / 7) (j % 7) v (by omega) hv7
  rw [show j / 7 * 7 + j % 7 = j by omega, hu] at e
  injection e with e
  have := hcell (j % 7) v hv7
  rw [show off + j / 7 * 7 + j % 7 = off + j by omega] at this
  rw [e]; exact this
theorem open_cellsA {r : Reach} {b0 : Nat} {v : Value} {d : DataW H} {p : List MemPlace} (hv : Value.okWide Try.prog w r b0 52 v) (h : DataW.Trod enc Try.prog w 0 (fun _ => true) held 52 v d p) :
    ∃ A n c, ∃ l : List Idx.Cell, v = .slice A n c ∧ TabR w A n l ∧ n ≤ c ∧ c ≤ 9223372036854775807 :=
  open_tab Try.underlying52 (by kernel_rfl) Try.underlying82 rfl rfl rfl rfl rfl rfl rfl rfl rfl hv h
end
end Go.Proofs.Ytdboehogkmidbaa
