/- []casematelaw12.Act that came in. -/
import Derived.Test.YtdboehogkmidbaaIdxOpen
import Derived.Test.YtdboehogkmidbaaFlBoth
namespace Go.Proofs.Ytdboehogkmidbaa
open Go.ChangeShapes Go.WideShapes Go.ChangeAt Go.RowKit Go.Deep
set_option maxRecDepth 8000
set_option linter.unusedVariables false
section
variable {H : Type} {enc : TypeId × Value → H} {w : World} {held : Bool}
structure FActV where
  kd : Int
  f : Fl.F
  num : Int
  tm : Int
  no : Int
instance : Inhabited FActV := ⟨⟨0, ⟨⟨0, 0, 0, 0, 0⟩, ⟨0, 0, 0, 0, 0⟩, 0, 0⟩, 0, 0, 0⟩⟩
def FActV.cells (a : FActV) : List Value := [.int .i64 a.kd, .int .i64 a.f.th.pr, .int .u32 a.f.th.sr, .int .i64 a.f.th.sp, .int .u32 a.f.th.ds, .int .i64 a.f.th.dp, .int .i64 a.f.bk.pr, .int .u32 a.f.bk.sr, .int .i64 a.f.bk.sp, .int .u32 a.f.bk.ds, .int .i64 a.f.bk.dp, .int .i64 a.f.un, .int .i64 a.f.no, .int .i64 a.num, .int .i64 a.tm, .int .i64 a.no]
def FActV.ok (a : FActV) : Prop := a.f.th.wf ∧ a.f.bk.wf
theorem flow_cells {n : Nat} {cs : List Value} {y : DataW H × List MemPlace} (hl : cs.length = 12) (h : DataW.trod enc Try.prog w 0 (fun _ => true) held n 31 cs = some y) : ∃ f : Fl.F, cs = [.int .i64 f.th.pr, .int .u32 f.th.sr, .int .i64 f.th.sp, .int .u32 f.th.ds, .int .i64 f.th.dp, .int .i64 f.bk.pr, .int .u32 f.bk.sr, .int .i64 f.bk.sp, .int .u32 f.bk.ds, .int .i64 f.bk.dp, .int .i64 f.un, .int .i64 f.no] ∧ f.th.wf ∧ f.bk.wf := by
  obtain ⟨m, hf⟩ := struct_parts Try.underlying31 h
  match cs, hl with
  | [c0, c1, c2, c3, c4, c5, c6, c7, c8, c9, c10, c11], _ =>
    obtain ⟨y0, e0⟩ : ∃ y, DataW.trod enc Try.prog w 0 (fun _ => true) held m 29 (([c0, c1, c2, c3, c4, c5, c6, c7, c8, c9, c10, c11].drop 0).take (Try.prog.cellsOf 29)) = some y := hf 0 _ rfl
    rw [show Try.prog.cellsOf 29 = 5 by kernel_rfl] at e0
    obtain ⟨y1, e1⟩ : ∃ y, DataW.trod enc Try.prog w 0 (fun _ => true) held m 29 (([c0, c1, c2, c3, c4, c5, c6, c7, c8, c9, c10, c11].drop 5).take (Try.prog.cellsOf 29)) = some y := hf 1 _ rfl
    rw [show Try.prog.cellsOf 29 = 5 by kernel_rfl] at e1
    obtain ⟨y2, e2⟩ : ∃ y, DataW.trod enc Try.prog w 0 (fun _ => true) held m 3 (([c0, c1, c2, c3, c4, c5, c6, c7, c8, c9, c10, c11].drop 10).take (Try.prog.cellsOf 3)) = some y := hf 2 _ rfl
    rw [show Try.prog.cellsOf 3 = 1 by kernel_rfl] at e2
    obtain ⟨y3, e3⟩ : ∃ y, DataW.trod enc Try.prog w 0 (fun _ => true) held m 3 (([c0, c1, c2, c3, c4, c5, c6, c7, c8, c9, c10, c11].drop 11).take (Try.prog.cellsOf 3)) = some y := hf 3 _ rfl
    rw [show Try.prog.cellsOf 3 = 1 by kernel_rfl] at e3
    simp only [List.drop_zero, List.drop_succ_cons, List.take_succ_cons, List.take_zero] at e0 e1 e2 e3
    obtain ⟨k0, q0, w0⟩ := key_cells rfl e0
    obtain ⟨k1, q1, w1⟩ := key_cells rfl e1
    obtain ⟨x2, q2, _, _⟩ := DataW.trod_int Try.underlying3 e2
    obtain ⟨x3, q3, _, _⟩ := DataW.trod_int Try.underlying3 e3
    simp only [List.cons.injEq, and_true] at q0 q1 q2 q3
    obtain ⟨r1, r2, r3, r4, r5⟩ := q0
    obtain ⟨s1, s2, s3, s4, s5⟩ := q1
    subst r1 r2 r3 r4 r5 s1 s2 s3 s4 s5 q2 q3
    exact ⟨⟨k0, k1, x2, x3⟩, rfl, w0, w1⟩
theorem fact_cells {n : Nat} {cs : List Value} {y : DataW H × List MemPlace} (hl : cs.length = 16) (h : DataW.trod enc Try.prog w 0 (fun _ => true) held n 40 cs = some y) : ∃ a : FActV, cs = a.cells ∧ a.ok := by
  obtain ⟨m, hf⟩ := struct_parts Try.underlying40 h
  match cs, hl with
  | [c0, c1, c2, c3, c4, c5, c6, c7, c8, c9, c10, c11, c12, c13, c14, c15], _ =>
    obtain ⟨y0, e0⟩ : ∃ y, DataW.trod enc Try.prog w 0 (fun _ => true) held m 3 (([c0, c1, c2, c3, c4, c5, c6, c7, c8, c9, c10, c11, c12, c13, c14, c15].drop 0).take (Try.prog.cellsOf 3)) = some y := hf 0 _ rfl
    rw [show Try.prog.cellsOf 3 = 1 by kernel_rfl] at e0
    obtain ⟨y1, e1⟩ : ∃ y, DataW.trod enc Try.prog w 0 (fun _ => true) held m 31 (([c0, c1, c2, c3, c4, c5, c6, c7, c8, c9, c10, c11, c12, c13, c14, c15].drop 1).take (Try.prog.cellsOf 31)) = some y := hf 1 _ rfl
    rw [show Try.prog.cellsOf 31 = 12 by kernel_rfl] at e1
    obtain ⟨y2, e2⟩ : ∃ y, DataW.trod enc Try.prog w 0 (fun _ => true) held m 3 (([c0, c1, c2, c3, c4, c5, c6, c7, c8, c9, c10, c11, c12, c13, c14, c15].drop 13).take (Try.prog.cellsOf 3)) = some y := hf 2 _ rfl
    rw [show Try.prog.cellsOf 3 = 1 by kernel_rfl] at e2
    obtain ⟨y3, e3⟩ : ∃ y, DataW.trod enc Try.prog w 0 (fun _ => true) held m 3 (([c0, c1, c2, c3, c4, c5, c6, c7, c8, c9, c10, c11, c12, c13, c14, c15].drop 14).take (Try.prog.cellsOf 3)) = some y := hf 3 _ rfl
    rw [show Try.prog.cellsOf 3 = 1 by kernel_rfl] at e3
    obtain ⟨y4, e4⟩ : ∃ y, DataW.trod enc Try.prog w 0 (fun _ => true) held m 3 (([c0, c1, c2, c3, c4, c5, c6, c7, c8, c9, c10, c11, c12, c13, c14, c15].drop 15).take (Try.prog.cellsOf 3)) = some y := hf 4 _ rfl
    rw [show Try.prog.cellsOf 3 = 1 by kernel_rfl] at e4
    simp only [List.drop_zero, List.drop_succ_cons, List.take_succ_cons, List.take_zero] at e0 e1 e2 e3 e4
    obtain ⟨x0, q0, _, _⟩ := DataW.trod_int Try.underlying3 e0
    obtain ⟨f, q1, w1, w2⟩ := flow_cells rfl e1
    obtain ⟨x2, q2, _, _⟩ := DataW.trod_int Try.underlying3 e2
    obtain ⟨x3, q3, _, _⟩ := DataW.trod_int Try.underlying3 e3
    obtain ⟨x4, q4, _, _⟩ := DataW.trod_int Try.underlying3 e4
    simp only [List.cons.injEq, and_true] at q0 q1 q2 q3 q4
    obtain ⟨r1, r2, r3, r4, r5, s1, s2, s3, s4, s5, z1, z2⟩ := q1
    subst q0 r1 r2 r3 r4 r5 s1 s2 s3 s4 s5 z1 z2 q2 q3 q4
    exact ⟨⟨x0, f, x2, x3, x4⟩, rfl, w1, w2⟩
theorem open_facts {r : Reach} {b0 : Nat} {v : Value} {d : DataW H} {p : List MemPlace} (hv : Value.okWide Try.prog w r b0 38 v) (h : DataW.Trod enc Try.prog w 0 (fun _ => true) held 38 v d p) :
    ∃ A n c, v = .slice A n c ∧ FActs w A n ∧ n ≤ 9223372036854775807 := by
  obtain ⟨a, len, cap, rfl⟩ := okWide_slice Try.underlying38 hv
  obtain ⟨fuel, hf⟩ := h
  obtain ⟨A, n, c, l, hvs, hl, hok, hc, hnc, hcc⟩ := open_rows Try.underlying38 16 (by kernel_rfl) (by decide) FActV.cells FActV.ok (fun n cs y hl h => fact_cells hl h) hf
  refine ⟨A, n, c, hvs, ⟨fun j hj => ?_⟩, by omega⟩
  obtain ⟨b, off, e, hb, h1⟩ := hc j hj
  have hjl : j < l.length := by omega
  have hk := hok l[j]! (by rw [getElem!_pos l j hjl]; exact List.getElem_mem hjl)
  exact ⟨b, off, _, _, _, _, _, e, hb, fun i u hi => h1 i u hi, hk⟩
end
end Go.Proofs.Ytdboehogkmidbaa
