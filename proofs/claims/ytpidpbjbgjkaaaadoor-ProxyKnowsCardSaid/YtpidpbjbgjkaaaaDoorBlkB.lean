/- A block of byte cells that is known whole; a slice made in full. No program in sight. -/
import Derived.Test.YtpidpbjbgjkaaaaDoorOwn
import Derived.Lib.SmallJoins
import Derived.Laws.MakeOwn
import Derived.Laws.OwnMore
import Derived.Laws.CopyOwn
namespace Go.Proofs.YtpidpbjbgjkaaaaDoor
open Go.RowKit
set_option linter.unusedVariables false
def BlkB (w : World) (g : Nat) (T : TypeId) (l : List Int) : Prop := w.heap[g]? = some (.cells (bs l).toArray T (0, 0))
section
variable {w w' : World} {g : Nat} {T : TypeId} {l : List Int}
theorem BlkB.lt (h : BlkB w g T l) : g < w.heap.size := (Array.getElem?_eq_some_iff.1 h).1
theorem BlkB.below (h : BlkB w g T l) (hb : Below w.heap.size w w') : BlkB w' g T l := (hb.block g h.lt).trans h
theorem BlkB.cell (h : BlkB w g T l) {i : Nat} (hi : i < l.length) : w.cell? ⟨g, i, none⟩ = some (.int .u8 (l.getD i 0)) := by
  rw [cell_of_row _ _ i _ T (0, 0) h]
  simp [bs, hi]
theorem BlkB.unfrozen (h : BlkB w g T l) (i : Nat) : w.frozen? ⟨g, i, none⟩ = false := frozen_of_row _ _ _ _ T h
theorem BlkB.put (h : BlkB w g T l) (i : Nat) (v : Int) : BlkB (w.setCell ⟨g, i, none⟩ (.int .u8 v)) g T (l.set i v) := by
  unfold BlkB at h ⊢
  rw [Go.Joins.block_setCell h]
  simp [bs, List.map_set]
theorem BlkB.fit {m : List Int} (h : BlkB w g T l) (e : l = m) : BlkB w g T m := e ▸ h
theorem BlkB.other (h : BlkB w g T l) {a : Addr} (ha : a.block ≠ g) (v : Value) : BlkB (w.setCell a v) g T l := (Go.heap_setCell_other w a g v (Ne.symm ha)).trans h
theorem BlkB.drewN (h : BlkB w g T l) (k : Nat) : BlkB (w.drewN k) g T l := h
/-- a part of it, as a slice reads it -/
theorem BlkB.rd (h : BlkB w g T l) (a n : Nat) (hn : a + n ≤ l.length) : Rd w 1 (some ⟨g, a, none⟩) n (bs ((l.drop a).take n)) := by
  refine ⟨by rw [bs_len]; simp; omega, fun _ => ⟨g, a, rfl, h.lt, fun j u hu => ?_⟩⟩
  have hj : j < n := by
    have := (List.getElem?_eq_some_iff.1 hu).1
    rw [bs_len] at this
    simp at this
    omega
  rw [h.cell (by omega)]
  rw [bs, List.getElem?_map, List.getElem?_take_of_lt hj, List.getElem?_drop] at hu
  rw [List.getD_eq_getElem?_getD]
  cases hq : l[a + j]? with
  | none => rw [hq] at hu; cases hu
  | some x =>
    rw [hq] at hu
    simpa using hu
end
theorem wpList_made {P : Program} {w : World} {ops : Array Oper} {rest : List Oper} {o : Oper} {a : Act} {Q : Exit → Act → World → Prop} (hg : o.guard = none) (l c : Operand) (t : TypeId) (hop : o.op = Op.makeSlice t l c)
    (e : TypeId) (z : Value) (bytes : Nat) (ht : P.underlying t = some (.slice e)) (hinfo : (P.info? e).map (fun i => (i.zero, i.size, i.bytes)) = some (some z, 1, bytes)) (hz1 : z.cells = #[z])
    (n : Nat) (C : Int) (hC : C = (n : Int)) (hl : a.eval l = .int .i64 C) (hc : a.eval c = .int .i64 C) (b2 : bytes * n ≤ 281474976710656) (b3 : n ≤ 9223372036854775807)
    (h : wpList P ops Q rest (a.put o.dst (.slice (some ⟨w.heap.size, 0, none⟩) n n)) (w.alloc (.cells (List.replicate n z).toArray e))) : wpList P ops Q (o :: rest) a w := by
  subst hC
  obtain ⟨i, hi, hz, hsize, hby⟩ := info_parts hinfo
  have hrun := run_make (P := P) w t e i z ht hi hz .i64 .i64 (n : Int) (n : Int) (Int.natCast_nonneg n) (Int.le_refl _) (by rw [hby, ← Int.natCast_mul]; exact Int.ofNat_le.2 b2) (Int.ofNat_le.2 b3)
  have e1 : (madeCells z.cells ((n : Int).toNat * i.size)) = (List.replicate n z).toArray := by
    rw [hsize, hz1, Int.toNat_natCast, Nat.mul_one, ← toList_madeCells_one]
  rw [e1, Int.toNat_natCast] at hrun
  refine wpList_plain hg fun K hK => ?_
  unfold Oper.wp
  simp [execOp, hop, hl, hc, hrun, Result.andThen]
  exact hK _ _ h
end Go.Proofs.YtpidpbjbgjkaaaaDoor
