/- A block of cells that is known whole. No program in sight. -/
import Derived.Test.YtihhcalgjkkalaaOwn
import Derived.Lib.SmallJoins
namespace Go.Proofs.Ytihhcalgjkkalaa
open Go.RowKit
set_option linter.unusedVariables false
def BlkV (w : World) (g : Nat) (T : TypeId) (l : List Value) : Prop := w.heap[g]? = some (.cells l.toArray T (0, 0))
theorem bel_grow {w w' : World} (h : Below w.heap.size w w') (o : Obj) : Below w.heap.size w (w'.alloc o) := h.alloc h.size o
section
variable {w w' : World} {g : Nat} {T : TypeId} {l : List Value}
theorem BlkV.lt (h : BlkV w g T l) : g < w.heap.size := (Array.getElem?_eq_some_iff.1 h).1
theorem BlkV.below (h : BlkV w g T l) (hb : Below w.heap.size w w') : BlkV w' g T l := (hb.block g h.lt).trans h
theorem BlkV.below_at {B : Nat} (h : BlkV w g T l) (hb : Below B w w') (hg : g < B) : BlkV w' g T l := (hb.block g hg).trans h
theorem BlkV.cell (h : BlkV w g T l) {i : Nat} {v : Value} (hi : l[i]? = some v) : w.cell? ⟨g, i, none⟩ = some v := by
  rw [cell_of_row _ _ i _ T (0, 0) h]
  simpa using hi
theorem BlkV.unfrozen (h : BlkV w g T l) (i : Nat) : w.frozen? ⟨g, i, none⟩ = false := frozen_of_row _ _ _ _ T h
theorem BlkV.put (h : BlkV w g T l) (i : Nat) (v : Value) : BlkV (w.setCell ⟨g, i, none⟩ v) g T (l.set i v) := by
  unfold BlkV at h ⊢
  rw [Go.Joins.block_setCell h]
  simp
theorem BlkV.fit {m : List Value} (h : BlkV w g T l) (e : l = m) : BlkV w g T m := e ▸ h
theorem BlkV.other (h : BlkV w g T l) {a : Addr} (ha : a.block ≠ g) (v : Value) : BlkV (w.setCell a v) g T l := (Go.heap_setCell_other w a g v (Ne.symm ha)).trans h
theorem BlkV.drewN (h : BlkV w g T l) (k : Nat) : BlkV (w.drewN k) g T l := h
theorem BlkV.alloc (h : BlkV w g T l) (o : Obj) : BlkV (w.alloc o) g T l := h.below ((Below.refl _ _).alloc (Nat.le_refl _) o)
theorem BlkV.new (w : World) (T : TypeId) (l : List Value) : BlkV (w.alloc (.cells l.toArray T)) w.heap.size T l := heap_alloc_new w _
theorem BlkV.new_at (w : World) (T : TypeId) (l : List Value) {g : Nat} (hg : g = w.heap.size) : BlkV (w.alloc (.cells l.toArray T)) g T l := by
  subst hg
  exact heap_alloc_new w _
end
end Go.Proofs.Ytihhcalgjkkalaa
