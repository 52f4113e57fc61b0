/- The walks of the law's awake and of Short. -/
import Derived.Test.YtliibpajgdncpaaStateStepJ
import Derived.Test.YtliibpajgdncpaaStateLasts
namespace Go.Proofs.Ytliibpajgdncpaa
open Go.RowKit
set_option linter.unusedVariables false
theorem State.aw1 : State.step State.fresh (State.said 0 0 0 2 0) = (⟨1, false, false, 0, 0, false, false⟩, true) := by decide +kernel
theorem State.aw2 : State.step ⟨1, false, false, 0, 0, false, false⟩ (State.said 1 0 0 18 0) = (⟨2, false, false, 0, 0, false, false⟩, true) := by decide +kernel
theorem State.aw3 : State.step ⟨2, false, false, 0, 0, false, false⟩ (State.said 0 0 0 16 0) = (⟨3, false, false, 0, 0, false, false⟩, true) := by decide +kernel
theorem Blk.put7 {w : World} {g : Nat} {T : TypeId} {x0 x1 x2 x3 x4 x5 x6 y0 y1 y2 y3 y4 y5 y6 : Value} (h : Blk w g T [x0, x1, x2, x3, x4, x5, x6]) :
    Blk (((((((w.setCell ⟨g, 0, none⟩ y0).setCell ⟨g, 1, none⟩ y1).setCell ⟨g, 2, none⟩ y2).setCell ⟨g, 3, none⟩ y3).setCell ⟨g, 4, none⟩ y4).setCell ⟨g, 5, none⟩ y5).setCell ⟨g, 6, none⟩ y6) g T [y0, y1, y2, y3, y4, y5, y6] :=
  ((((((h.put 0 y0).put 1 y1).put 2 y2).put 3 y3).put 4 y4).put 5 y5).put 6 y6
theorem Below.put7 {B : Nat} {a w : World} {g : Nat} (h : Below B a w) (hg : B ≤ g) {y0 y1 y2 y3 y4 y5 y6 : Value} :
    Below B a (((((((w.setCell ⟨g, 0, none⟩ y0).setCell ⟨g, 1, none⟩ y1).setCell ⟨g, 2, none⟩ y2).setCell ⟨g, 3, none⟩ y3).setCell ⟨g, 4, none⟩ y4).setCell ⟨g, 5, none⟩ y5).setCell ⟨g, 6, none⟩ y6) :=
  ((((((h.setCell hg _).setCell hg _).setCell hg _).setCell hg _).setCell hg _).setCell hg _).setCell hg _
theorem step_at (c d : State.C) (ok : Bool) (sd sp dp sq ak fl wi ur : Int) (Ao : Option Addr) (no co : Nat) (Ab : Option Addr) (nb cb : Nat) (w : World) (hn : nb ≤ 4294967295) (h : State.step c (State.said sd sq ak fl nb) = (d, ok)) :
    Calls Try.prog 12 #[.agg #[.int .i64 c.st, .bool c.f0, .bool c.f1, .int .u32 c.a0, .int .u32 c.a1, .bool c.k0, .bool c.k1], .int .i64 sd, .agg #[.int .i64 sp, .int .i64 dp, .int .u32 sq, .int .u32 ak, .int .i64 fl, .int .i64 wi, .int .i64 ur, .slice Ao no co, .slice Ab nb cb]] w
      fun e w' => e = .returned (.tuple #[.agg #[.int .i64 d.st, .bool d.f0, .bool d.f1, .int .u32 d.a0, .int .u32 d.a1, .bool d.k0, .bool d.k1], .bool ok]) ∧ Below w.heap.size w w' := by
  have := step_spec c sd sp dp sq ak fl wi ur Ao no co Ab nb cb w hn
  rw [h] at this
  exact this
set_option maxHeartbeats 2000000 in
theorem sawake (w : World) : Calls Try.prog 10 #[] w fun e w' => e = .returned (.bool true) ∧ Below w.heap.size w w' := by
  have e9 : (State.lasts 3 9 == 9) = true := by decide
  go_enter Try.func10, Try.ntmps10
  go_wp2_with fail
  refine (step_at State.fresh _ _ 0 0 0 0 0 2 0 0 none 0 0 none 0 0 _ (by omega) State.aw1).mono ?_
  rintro e w1 ⟨rfl, hb1⟩
  go_wp2_with fail
  have B1 := Blk.new w1 26 [.int .i64 1, .bool false, .bool false, .int .u32 0, .int .u32 0, .bool false, .bool false] _ rfl
  refine (step_at ⟨1, false, false, 0, 0, false, false⟩ _ _ 1 0 0 0 0 18 0 0 none 0 0 none 0 0 _ (by omega) State.aw2).mono ?_
  rintro e w2 ⟨rfl, hb2⟩
  have C2 := B1.later hb2
  have hs2 : w1.heap.size < w2.heap.size := C2.lt
  have hbb2 : Below w.heap.size w w2 := (hb1.alloc hb1.size _).trans (hb2.mono (by have := hb1.size; simp; omega))
  obtain ⟨b0, b1, b2, b3, b4, b5, b6⟩ := cells7 C2
  obtain ⟨z0, z1, z2, z3, z4, z5, z6⟩ := frozen7 C2
  have hg := hb1.size
  go_wp2_with fail
  refine (step_at ⟨2, false, false, 0, 0, false, false⟩ _ _ 0 0 0 0 0 16 0 0 none 0 0 none 0 0 _ (by omega) State.aw3).mono ?_
  rintro e w3 ⟨rfl, hb3⟩
  have C3 := (Blk.put7 C2).later hb3
  have hbb3 : Below w.heap.size w w3 := (Below.put7 hbb2 hg).trans (hb3.mono (by have := hb1.size; simp; omega))
  clear b0 b1 b2 b3 b4 b5 b6 z0 z1 z2 z3 z4 z5 z6 C2 hb3 hbb2 hb2 B1 hb1
  obtain ⟨b0, b1, b2, b3, b4, b5, b6⟩ := cells7 C3
  obtain ⟨z0, z1, z2, z3, z4, z5, z6⟩ := frozen7 C3
  go_wp2_with (go_at_call 16; refine (lasts_spec _ _ _ (by omega) (by omega)).mono ?_; rintro e w' ⟨rfl, rfl⟩)
  go_ret
  exact ⟨rfl, Below.put7 hbb3 hg⟩
end Go.Proofs.Ytliibpajgdncpaa
