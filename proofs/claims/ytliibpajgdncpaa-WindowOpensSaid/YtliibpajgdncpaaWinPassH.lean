/- Words for the walk of window.Pass. -/
import Derived.Test.YtliibpajgdncpaaWinFirst
import Derived.Test.YtliibpajgdncpaaWinRead
import Derived.Test.YtliibpajgdncpaaWinWrong
import Derived.Deep.CutBlock
import Derived.Outline
import Derived.Deep.RegionWith
import Derived.BigRegion
import Derived.Deep.QuietTactic
import Derived.BigQuiet
namespace Go.Proofs.Ytliibpajgdncpaa
open Go.RowKit
set_option linter.unusedVariables false
/-- What Pass answers: both sides behind it (the own one first, or, for side 1, the other one), and what was wrong. -/
def PassR (P : (Win.S × Win.S) × Int) (flip : Bool) (w : World) (e : Ending) (w' : World) : Prop :=
  e = .returned (.tuple #[.agg (List.toArray (if flip = true then P.1.2.cells ++ P.1.1.cells else P.1.1.cells ++ P.1.2.cells)), .int .i64 P.2]) ∧ Below w.heap.size w w'
theorem passR_mk0 {P : (Win.S × Win.S) × Int} {a b : Win.S} {bad : Int} {w w' : World} (h : P = ((a, b), bad)) (hb : Below w.heap.size w w') : PassR P false w (.returned (.tuple #[.agg #[.int .u32 a.e, .int .u32 a.m, .int .u32 a.u, .int .i64 a.w, .int .i64 a.s, .bool a.h, .int .u32 b.e, .int .u32 b.m, .int .u32 b.u, .int .i64 b.w, .int .i64 b.s, .bool b.h], .int .i64 bad])) w' := by
  subst h
  exact ⟨rfl, hb⟩
theorem passR_mk1 {P : (Win.S × Win.S) × Int} {a b : Win.S} {bad : Int} {w w' : World} (h : P = ((b, a), bad)) (hb : Below w.heap.size w w') : PassR P true w (.returned (.tuple #[.agg #[.int .u32 a.e, .int .u32 a.m, .int .u32 a.u, .int .i64 a.w, .int .i64 a.s, .bool a.h, .int .u32 b.e, .int .u32 b.m, .int .u32 b.u, .int .i64 b.w, .int .i64 b.s, .bool b.h], .int .i64 bad])) w' := by
  subst h
  exact ⟨rfl, hb⟩
theorem seq_ahead (a b : Int) (w : World) :
    Calls Try.prog 41 #[.int .u32 a, .int .u32 b] w fun e w' => e = .returned (.bool (Seq.ahead a b)) ∧ w = w' := by
  go_enter Try.func41, Try.ntmps41
  go_wp2_with (go_at_call 21; refine (seq_dist _ _ _).mono ?_; rintro e w' ⟨rfl, rfl⟩)
  go_ret
  exact ⟨rfl, rfl⟩
theorem seq_later (a b : Int) (w : World) :
    Calls Try.prog 38 #[.int .u32 a, .int .u32 b] w fun e w' => e = .returned (.int .u32 (Seq.later a b)) ∧ w = w' := by
  cases h : Seq.ahead b a
  all_goals
    have hl : Seq.later a b = if Seq.ahead b a then b else a := rfl
    rw [hl, h]
    go_enter Try.func38, Try.ntmps38
    go_wp2_with (go_at_call 41; refine (seq_ahead _ _ _).mono ?_; rintro e w' ⟨rfl, rfl⟩)
    go_ret
    exact ⟨rfl, rfl⟩
theorem BlkV.put12 {w : World} {g : Nat} {T : TypeId} {a b c d e f h i j k l m : Value} (H : BlkV w g T [a, b, c, d, e, f, h, i, j, k, l, m]) {x0 x1 x2 x3 x4 x5 x6 x7 x8 x9 x10 x11 : Value} :
    BlkV ((((((((((((w.setCell ⟨g, 0, none⟩ x0).setCell ⟨g, 1, none⟩ x1).setCell ⟨g, 2, none⟩ x2).setCell ⟨g, 3, none⟩ x3).setCell ⟨g, 4, none⟩ x4).setCell ⟨g, 5, none⟩ x5).setCell ⟨g, 6, none⟩ x6).setCell ⟨g, 7, none⟩ x7).setCell ⟨g, 8, none⟩ x8).setCell ⟨g, 9, none⟩ x9).setCell ⟨g, 10, none⟩ x10).setCell ⟨g, 11, none⟩ x11) g T [x0, x1, x2, x3, x4, x5, x6, x7, x8, x9, x10, x11] :=
  ((((((((((((H.put 0 x0).put 1 x1).put 2 x2).put 3 x3).put 4 x4).put 5 x5).put 6 x6).put 7 x7).put 8 x8).put 9 x9).put 10 x10).put 11 x11).fit rfl
theorem BlkV.off12 {w : World} {g g' : Nat} {T : TypeId} {xs : List Value} (H : BlkV w g' T xs) (hne : ¬ g = g') {x0 x1 x2 x3 x4 x5 x6 x7 x8 x9 x10 x11 : Value} :
    BlkV ((((((((((((w.setCell ⟨g, 0, none⟩ x0).setCell ⟨g, 1, none⟩ x1).setCell ⟨g, 2, none⟩ x2).setCell ⟨g, 3, none⟩ x3).setCell ⟨g, 4, none⟩ x4).setCell ⟨g, 5, none⟩ x5).setCell ⟨g, 6, none⟩ x6).setCell ⟨g, 7, none⟩ x7).setCell ⟨g, 8, none⟩ x8).setCell ⟨g, 9, none⟩ x9).setCell ⟨g, 10, none⟩ x10).setCell ⟨g, 11, none⟩ x11) g' T xs :=
  ((((((((((((H.other hne x0).other hne x1).other hne x2).other hne x3).other hne x4).other hne x5).other hne x6).other hne x7).other hne x8).other hne x9).other hne x10).other hne x11)
theorem Below.put12 {B g : Nat} {a w : World} (h : Below B a w) (hg : B ≤ g) {x0 x1 x2 x3 x4 x5 x6 x7 x8 x9 x10 x11 : Value} : Below B a ((((((((((((w.setCell ⟨g, 0, none⟩ x0).setCell ⟨g, 1, none⟩ x1).setCell ⟨g, 2, none⟩ x2).setCell ⟨g, 3, none⟩ x3).setCell ⟨g, 4, none⟩ x4).setCell ⟨g, 5, none⟩ x5).setCell ⟨g, 6, none⟩ x6).setCell ⟨g, 7, none⟩ x7).setCell ⟨g, 8, none⟩ x8).setCell ⟨g, 9, none⟩ x9).setCell ⟨g, 10, none⟩ x10).setCell ⟨g, 11, none⟩ x11) :=
  ((((((((((((h.setCell hg x0).setCell hg x1).setCell hg x2).setCell hg x3).setCell hg x4).setCell hg x5).setCell hg x6).setCell hg x7).setCell hg x8).setCell hg x9).setCell hg x10).setCell hg x11)
theorem BlkV.put_at {w : World} {g : Nat} {T : TypeId} {l m : List Value} (h : BlkV w g T l) (i : Nat) (v : Value) (e : l.set i v = m) : BlkV (w.setCell ⟨g, i, none⟩ v) g T m := (h.put i v).fit e
theorem BlkV.drew {w : World} {g : Nat} {T : TypeId} {l : List Value} (h : BlkV w g T l) : BlkV w.drew g T l := h
theorem win_at (h k : Nat) (hk : k < 2) (w : World) : (Instr.indexAt 47 (.pointer (some ⟨h, 0, none⟩)) (.int .i64 (k : Int))).run Try.prog w = .ok (.pointer (some ⟨h, k * 6, none⟩)) w := by
  have hl : Try.prog.arrayLen 47 = 2 := by kernel_rfl
  have he : Try.prog.elem 47 = 46 := by kernel_rfl
  have hs : (sizeOf 46).run Try.prog w = .ok 6 w := by kernel_rfl
  have hu : Try.prog.underlying 47 = some (.array (Try.prog.arrayLen 47) (Try.prog.elem 47)) := by kernel_rfl
  refine (run_indexAt_array (P := Try.prog) (w := w) 47 ⟨h, 0, none⟩ .i64 (k : Int) hu).trans ?_
  rw [hl, he, hs, if_pos (by omega)]
  rcases (show k = 0 ∨ k = 1 by omega) with rfl | rfl <;> rfl
end Go.Proofs.Ytliibpajgdncpaa
