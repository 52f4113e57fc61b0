/- What lies in memory while the reference's Step runs; its Right for a right connection. -/
import Derived.Test.YtliibpajgdncpaaSRefA
import Derived.Test.YtliibpajgdncpaaStateStepJ
import Derived.Test.YtliibpajgdncpaaStateBits
namespace Go.Proofs.Ytliibpajgdncpaa
open Go.RowKit
set_option linter.unusedVariables false
structure SMem (w wx : World) (c : List Value) (t : List Value) : Prop where
  bel : Below w.heap.size w wx
  b0 : Blk wx w.heap.size 26 c
  b1 : Blk wx (w.heap.size + 1) 30 t
  b2 : Blk wx (w.heap.size + 1 + 1) 26 [.int .i64 0, .bool false, .bool false, .int .u32 0, .int .u32 0, .bool false, .bool false]
theorem SMem.new (w : World) (c t : List Value) : SMem w (((w.alloc (.cells c.toArray 26)).alloc (.cells t.toArray 30)).alloc (.cells #[.int .i64 0, .bool false, .bool false, .int .u32 0, .int .u32 0, .bool false, .bool false] 26)) c t :=
  ⟨((((Below.refl _ _).alloc (Nat.le_refl _) _).alloc (by simp) _).alloc (by simp; omega) _), ((Blk.new _ _ c _ rfl).alloc _).alloc _, (Blk.new _ _ t _ (by simp)).alloc _, Blk.new _ _ [.int .i64 0, .bool false, .bool false, .int .u32 0, .int .u32 0, .bool false, .bool false] _ (by simp)⟩
theorem SMem.later {w wx wy : World} {c t : List Value} (h : SMem w wx c t) (hb : Below wx.heap.size wx wy) : SMem w wy c t := ⟨bel_then h.bel hb, h.b0.later hb, h.b1.later hb, h.b2.later hb⟩
theorem SMem.drewN {w wx : World} {c t : List Value} (h : SMem w wx c t) (k : Nat) : SMem w (wx.drewN k) c t := ⟨Below.drewN h.bel k, h.b0, h.b1, h.b2⟩
theorem SMem.put {w wx : World} {c t : List Value} (h : SMem w wx c t) (i : Nat) (v : Value) : SMem w (wx.setCell ⟨w.heap.size, i, none⟩ v) (c.set i v) t :=
  ⟨h.bel.setCell (Nat.le_refl _) _, h.b0.put i v, h.b1.other (by simp) _, h.b2.other (by simp; omega) _⟩
theorem SMem.as {w wx : World} {c d t : List Value} (h : SMem w wx c t) (e : c = d) : SMem w wx d t := e ▸ h
theorem rright_true (c : State.C) (w : World) (ha : 0 ≤ c.a0 ∧ 0 ≤ c.a1) (h : State.rightB c = true) : Calls Try.prog 15 #[.agg #[.int .i64 c.st, .bool c.f0, .bool c.f1, .int .u32 c.a0, .int .u32 c.a1, .bool c.k0, .bool c.k1]] w fun e w' => e = .returned (.bool true) ∧ Below w.heap.size w w' := by
  have := rright_spec c w ha
  rwa [h] at this
theorem State.go_talk {c : C} {w : W} (hb : begins w = false) (hr : w.rst = false) (h3 : 3 ≤ c.st) (h6 : c.st ≤ 6) : go c w = talk c w := by
  unfold go
  rw [hr, hb]
  simp only [Bool.false_and, Bool.false_eq_true, if_false]
  rw [if_neg (by omega), if_neg (by omega), if_pos (by omega)]
end Go.Proofs.Ytliibpajgdncpaa
