/- A block of cells that is known whole: its cells, stores into it, what other steps leave of it. No program in sight. -/
import Derived.Test.YtliibpajgdncpaaOwn
import Derived.Lib.SmallJoins
import Derived.Laws.Rows
namespace Go.Proofs.Ytliibpajgdncpaa
open Go.RowKit
set_option linter.unusedVariables false
def Blk (w : World) (g : Nat) (T : TypeId) (xs : List Value) : Prop := w.heap[g]? = some (.cells xs.toArray T (0, 0))
section
variable {w w' : World} {g : Nat} {T : TypeId} {xs : List Value}
theorem Blk.lt (h : Blk w g T xs) : g < w.heap.size := (Array.getElem?_eq_some_iff.1 h).1
theorem Blk.below {B : Nat} (h : Blk w g T xs) (hb : Below B w w') (hg : g < B) : Blk w' g T xs := (hb.block g hg).trans h
theorem Blk.later (h : Blk w g T xs) (hb : Below w.heap.size w w') : Blk w' g T xs := h.below hb h.lt
theorem Blk.cell (h : Blk w g T xs) {i : Nat} {u : Value} (hi : xs[i]? = some u) : w.cell? ⟨g, i, none⟩ = some u := by
  rw [cell_of_row _ _ i _ T (0, 0) h]
  simpa using hi
theorem Blk.unfrozen (h : Blk w g T xs) (i : Nat) : w.frozen? ⟨g, i, none⟩ = false := frozen_of_row _ _ _ _ T h
theorem Blk.put (h : Blk w g T xs) (i : Nat) (v : Value) : Blk (w.setCell ⟨g, i, none⟩ v) g T (xs.set i v) := by
  unfold Blk at h ⊢
  rw [Go.Joins.block_setCell h]
  simp
theorem Blk.other (h : Blk w g T xs) {a : Addr} (ha : a.block ≠ g) (v : Value) : Blk (w.setCell a v) g T xs := (Go.heap_setCell_other w a g v (Ne.symm ha)).trans h
theorem Blk.alloc (h : Blk w g T xs) (o : Obj) : Blk (w.alloc o) g T xs := (Below.heap_alloc w o g h.lt).trans h
theorem Blk.drewN (h : Blk w g T xs) (k : Nat) : Blk (w.drewN k) g T xs := h
theorem Blk.drew (h : Blk w g T xs) : Blk w.drew g T xs := h
theorem Blk.new (w : World) (T : TypeId) (xs : List Value) (g : Nat) (hg : g = w.heap.size) : Blk (w.alloc (.cells xs.toArray T)) g T xs := by subst hg; exact heap_alloc_new w _
end
theorem Blk.as {w : World} {g : Nat} {T : TypeId} {xs ys : List Value} (h : Blk w g T xs) (e : xs = ys) : Blk w g T ys := e ▸ h
theorem Below.drewN {B : Nat} {a w : World} (h : Below B a w) (k : Nat) : Below B a (w.drewN k) := ⟨h.os, h.tape, h.output, h.size, h.block⟩
theorem Blk.puts {w : World} {g : Nat} {T : TypeId} {xs ys : List Value} {i : Nat} {v : Value} (h : Blk w g T xs) (e : xs.set i v = ys) : Blk (w.setCell ⟨g, i, none⟩ v) g T ys := e ▸ h.put i v
end Go.Proofs.Ytliibpajgdncpaa
