/- api.Conn that came in. -/
import Derived.Test.YtliibpajgdncpaaOpenS
import Derived.Test.YtliibpajgdncpaaStateWalks
namespace Go.Proofs.Ytliibpajgdncpaa
open Go.ChangeShapes Go.WideShapes Go.ChangeAt Go.RowKit Go.Deep
set_option linter.unusedVariables false
section
variable {H : Type} {enc : TypeId × Value → H} {w : World} {held : Bool}
theorem arr2_bool {n : Nat} {c0 c1 : Value} {x : DataW H × List MemPlace} (h : DataW.trod enc Try.prog w 0 (fun _ => true) held n 22 [c0, c1] = some x) : ∃ a b, c0 = .bool a ∧ c1 = .bool b := by
  obtain ⟨xs, m, _, _, _, hl, hg⟩ := DataW.trod_array Try.underlying22 h
  have hc : Try.prog.cellsOf 4 = 1 := by kernel_rfl
  have h0 := hg 0 (by omega)
  have h1 := hg 1 (by omega)
  rw [hc] at h0 h1
  obtain ⟨a, ha, _⟩ := DataW.trod_bool Try.underlying4 (h0.trans (List.getElem?_eq_getElem (by omega)))
  obtain ⟨b, hb, _⟩ := DataW.trod_bool Try.underlying4 (h1.trans (List.getElem?_eq_getElem (by omega)))
  simp at ha hb
  exact ⟨a, b, ha, hb⟩
theorem arr2_u32 {n : Nat} {c0 c1 : Value} {x : DataW H × List MemPlace} (h : DataW.trod enc Try.prog w 0 (fun _ => true) held n 24 [c0, c1] = some x) : ∃ a b, c0 = .int .u32 a ∧ c1 = .int .u32 b ∧ (0 ≤ a ∧ a ≤ 4294967295) ∧ (0 ≤ b ∧ b ≤ 4294967295) := by
  obtain ⟨xs, m, _, _, _, hl, hg⟩ := DataW.trod_array Try.underlying24 h
  have hc : Try.prog.cellsOf 23 = 1 := by kernel_rfl
  have h0 := hg 0 (by omega)
  have h1 := hg 1 (by omega)
  rw [hc] at h0 h1
  obtain ⟨a, ha, _, w0⟩ := DataW.trod_int Try.underlying23 (h0.trans (List.getElem?_eq_getElem (by omega)))
  obtain ⟨b, hb, _, w1⟩ := DataW.trod_int Try.underlying23 (h1.trans (List.getElem?_eq_getElem (by omega)))
  simp at ha hb
  exact ⟨a, b, ha, hb, bounds_u32 w0, bounds_u32 w1⟩
structure State.C.ok (c : State.C) : Prop where
  st : -9223372036854775808 ≤ c.st ∧ c.st ≤ 9223372036854775807
  a0 : 0 ≤ c.a0 ∧ c.a0 ≤ 4294967295
  a1 : 0 ≤ c.a1 ∧ c.a1 ≤ 4294967295
theorem conn_of_cells {n : Nat} {cs : List Value} {y : DataW H × List MemPlace} (hl : cs.length = 7) (h : DataW.trod enc Try.prog w 0 (fun _ => true) held n 26 cs = some y) : ∃ c : State.C, cs = c.cells ∧ c.ok := by
  obtain ⟨xs, m, _, _, _, hx, hg⟩ := DataW.trod_struct Try.underlying26 h
  have hx4 : xs.length = 4 := hx
  have c1 : Try.prog.cellsOf 3 = 1 := by kernel_rfl
  have c2 : Try.prog.cellsOf 22 = 2 := by kernel_rfl
  have c3 : Try.prog.cellsOf 24 = 2 := by kernel_rfl
  match cs, hl with
  | [x0, x1, x2, x3, x4, x5, x6], _ =>
    have h0 : DataW.trod enc Try.prog w 0 (fun _ => true) held m 3 (([x0, x1, x2, x3, x4, x5, x6].drop 0).take (Try.prog.cellsOf 3)) = some (xs[0]'(by omega)) := (hg 0 _ rfl).trans (List.getElem?_eq_getElem (by omega))
    have h1 : DataW.trod enc Try.prog w 0 (fun _ => true) held m 22 (([x0, x1, x2, x3, x4, x5, x6].drop 1).take (Try.prog.cellsOf 22)) = some (xs[1]'(by omega)) := (hg 1 _ rfl).trans (List.getElem?_eq_getElem (by omega))
    have h2 : DataW.trod enc Try.prog w 0 (fun _ => true) held m 24 (([x0, x1, x2, x3, x4, x5, x6].drop 3).take (Try.prog.cellsOf 24)) = some (xs[2]'(by omega)) := (hg 2 _ rfl).trans (List.getElem?_eq_getElem (by omega))
    have h3 : DataW.trod enc Try.prog w 0 (fun _ => true) held m 22 (([x0, x1, x2, x3, x4, x5, x6].drop 5).take (Try.prog.cellsOf 22)) = some (xs[3]'(by omega)) := (hg 3 _ rfl).trans (List.getElem?_eq_getElem (by omega))
    rw [c1] at h0
    rw [c2] at h1 h3
    rw [c3] at h2
    simp only [List.drop_zero, List.drop_succ_cons, List.take_succ_cons, List.take_zero] at h0 h1 h2 h3
    obtain ⟨a, ha, _, w0⟩ := DataW.trod_int Try.underlying3 h0
    obtain ⟨f0, f1, rfl, rfl⟩ := arr2_bool h1
    obtain ⟨a0, a1, rfl, rfl, w1, w2⟩ := arr2_u32 h2
    obtain ⟨k0, k1, rfl, rfl⟩ := arr2_bool h3
    simp only [List.cons.injEq, and_true] at ha
    subst ha
    exact ⟨⟨a, f0, f1, a0, a1, k0, k1⟩, rfl, bounds_i64 w0, w1, w2⟩
theorem open_conn {r : Reach} {b0 : Nat} {v : Value} {d : DataW H} {p : List MemPlace} (hv : Value.okWide Try.prog w r b0 26 v) (h : DataW.Trod enc Try.prog w 0 (fun _ => true) held 26 v d p) :
    ∃ c : State.C, v = .agg c.cells.toArray ∧ c.ok := by
  obtain ⟨cs, rfl, hsz⟩ := okWide_struct Try.underlying26 hv
  obtain ⟨l⟩ := cs
  obtain ⟨fuel, hf⟩ := h
  have hl : l.length = 7 := by have := hsz.trans (show Try.prog.cellsOf 26 = 7 by kernel_rfl); simpa using this
  obtain ⟨t, ht, hok⟩ := conn_of_cells hl hf
  exact ⟨t, by rw [ht], hok⟩
end
end Go.Proofs.Ytliibpajgdncpaa
