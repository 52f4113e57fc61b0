/- The walks of package window's small functions: right, Right, has, Expect. -/
import Derived.Test.YtliibpajgdncpaaChecked
import Derived.Test.YtliibpajgdncpaaBlkV
import Derived.Test.YtliibpajgdncpaaWinPlain
namespace Go.Proofs.Ytliibpajgdncpaa
open Go.RowKit
set_option linter.unusedVariables false
set_option maxHeartbeats 1000000 in
theorem win_right1 (xe xm xu xw xs : Int) (xh : Bool) (w : World) :
    Calls Try.prog 33 #[.agg #[.int .u32 xe, .int .u32 xm, .int .u32 xu, .int .i64 xw, .int .i64 xs, .bool xh]] w fun e w' => e = .returned (.bool (Win.right1 ⟨xe, xm, xu, xw, xs, xh⟩)) ∧ Below w.heap.size w w' := by
  cases xh
  · have e1 : Win.right1 ⟨xe, xm, xu, xw, xs, false⟩ = decide (xe = 0 ∧ xm = 0 ∧ xu = 0 ∧ xw = 0 ∧ xs = 0) := by
      unfold Win.right1 Win.zero
      simp
    have E1 := Lib.hid e1
    clear e1
    go_enter Try.func33, Try.ntmps33
    go_wp2
    all_goals
      go_ret
      refine ⟨ret_bool ?_, by repeat (first | exact Below.refl _ _ | refine Below.alloc ?_ (by simp) _)⟩
      rw [E1.out]
      simp [*]
  · have e1 : Win.right1 ⟨xe, xm, xu, xw, xs, true⟩ = (decide (1 ≤ xw) && decide (xw ≤ 1073741824) && decide (-1 ≤ xs) && decide (xs ≤ 14)) := rfl
    have E1 := Lib.hid e1
    clear e1
    go_enter Try.func33, Try.ntmps33
    go_wp2
    all_goals
      go_ret
      refine ⟨ret_bool ?_, by repeat (first | exact Below.refl _ _ | refine Below.alloc ?_ (by simp) _)⟩
      rw [E1.out]
      rw [Bool.eq_iff_iff]
      simp
      try omega
theorem BlkV.twelve {w : World} {g : Nat} {T : TypeId} {a b c d e f h i j k l m : Value} (H : BlkV w g T [a, b, c, d, e, f, h, i, j, k, l, m]) :
    w.cell? ⟨g, 0, none⟩ = some a ∧ w.cell? ⟨g, 1, none⟩ = some b ∧ w.cell? ⟨g, 2, none⟩ = some c ∧ w.cell? ⟨g, 3, none⟩ = some d ∧ w.cell? ⟨g, 4, none⟩ = some e ∧ w.cell? ⟨g, 5, none⟩ = some f ∧
    w.cell? ⟨g, 6, none⟩ = some h ∧ w.cell? ⟨g, 7, none⟩ = some i ∧ w.cell? ⟨g, 8, none⟩ = some j ∧ w.cell? ⟨g, 9, none⟩ = some k ∧ w.cell? ⟨g, 10, none⟩ = some l ∧ w.cell? ⟨g, 11, none⟩ = some m :=
  ⟨H.cell rfl, H.cell rfl, H.cell rfl, H.cell rfl, H.cell rfl, H.cell rfl, H.cell rfl, H.cell rfl, H.cell rfl, H.cell rfl, H.cell rfl, H.cell rfl⟩
set_option maxHeartbeats 1000000 in
theorem win_right (xe xm xu xw xs : Int) (xh : Bool) (ye ym yu yw ys : Int) (yh : Bool) (w : World) :
    Calls Try.prog 19 #[.agg #[.int .u32 xe, .int .u32 xm, .int .u32 xu, .int .i64 xw, .int .i64 xs, .bool xh, .int .u32 ye, .int .u32 ym, .int .u32 yu, .int .i64 yw, .int .i64 ys, .bool yh]] w fun e w' => e = .returned (.bool (Win.right ⟨xe, xm, xu, xw, xs, xh⟩ ⟨ye, ym, yu, yw, ys, yh⟩)) ∧ Below w.heap.size w w' := by
  obtain ⟨W, hW⟩ : ∃ W, W = w.alloc (.cells (List.toArray [.int .u32 xe, .int .u32 xm, .int .u32 xu, .int .i64 xw, .int .i64 xs, .bool xh, .int .u32 ye, .int .u32 ym, .int .u32 yu, .int .i64 yw, .int .i64 ys, .bool yh]) 47) := ⟨_, rfl⟩
  have B0 : BlkV W w.heap.size 47 [.int .u32 xe, .int .u32 xm, .int .u32 xu, .int .i64 xw, .int .i64 xs, .bool xh, .int .u32 ye, .int .u32 ym, .int .u32 yu, .int .i64 yw, .int .i64 ys, .bool yh] := by rw [hW]; exact BlkV.new _ _ _
  have hbW : Below w.heap.size w W := by rw [hW]; exact (Below.refl _ _).alloc (Nat.le_refl _) _
  have HC1 := win_right1 xe xm xu xw xs xh W
  have HC2 := fun w' => win_right1 ye ym yu yw ys yh w'
  have E1 : Hid (Win.right ⟨xe, xm, xu, xw, xs, xh⟩ ⟨ye, ym, yu, yw, ys, yh⟩ = (Win.right1 ⟨xe, xm, xu, xw, xs, xh⟩ && Win.right1 ⟨ye, ym, yu, yw, ys, yh⟩ && (!xh || !yh || (decide (0 ≤ xs) && decide (0 ≤ ys))))) := Lib.hid rfl
  generalize Win.right1 ⟨xe, xm, xu, xw, xs, xh⟩ = p at HC1 E1
  generalize Win.right1 ⟨ye, ym, yu, yw, ys, yh⟩ = q at HC2 E1
  obtain ⟨c0, c1, c2, c3, c4, c5, c6, c7, c8, c9, c10, c11⟩ := B0.twelve
  have BB := Lib.hid B0
  clear B0
  go_enter Try.func19, Try.ntmps19
  go_wp2_with fail
  rw [← hW]
  clear hW
  go_wp2_with fail
  refine HC1.mono ?_
  rintro e w1 ⟨rfl, hb1⟩
  clear HC1 c0 c1 c2 c3 c4 c5 c6 c7 c8 c9 c10 c11
  have hbw1 := bel_then hbW hb1
  have B1 := BB.out.below hb1
  clear hb1 hbW BB
  obtain ⟨c0, c1, c2, c3, c4, c5, c6, c7, c8, c9, c10, c11⟩ := B1.twelve
  have HC := HC2 w1
  have BB := Lib.hid B1
  clear HC2 B1
  cases p
  · go_wp2_with fail
    go_ret
    exact ⟨ret_bool (by rw [E1.out]; simp), hbw1⟩
  go_wp2_with fail
  refine HC.mono ?_
  rintro e w2 ⟨rfl, hb2⟩
  clear HC c0 c1 c2 c3 c4 c5 c6 c7 c8 c9 c10 c11
  have hbw2 := bel_then hbw1 hb2
  have B2 := BB.out.below hb2
  clear hb2 hbw1 BB
  obtain ⟨c0, c1, c2, c3, c4, c5, c6, c7, c8, c9, c10, c11⟩ := B2.twelve
  clear B2
  cases q
  · go_wp2_with fail
    go_ret
    exact ⟨ret_bool (by rw [E1.out]; simp), hbw2⟩
  cases xh
  · go_wp2_with fail
    go_ret
    exact ⟨ret_bool (by rw [E1.out]; simp), hbw2⟩
  cases yh
  · go_wp2_with fail
    go_ret
    exact ⟨ret_bool (by rw [E1.out]; simp), hbw2⟩
  go_wp2_with fail
  all_goals
    go_ret
    exact ⟨ret_bool (by rw [E1.out]; simp [*]; try omega), hbw2⟩
theorem win_has (sp dp sq ak fl wi ur en wn : Int) (Ao : Option Addr) (no co : Nat) (Ab : Option Addr) (nb cb : Nat) (f : Int) (w : World) :
    Calls Try.prog 35 #[.agg #[.int .i64 sp, .int .i64 dp, .int .u32 sq, .int .u32 ak, .int .i64 fl, .int .i64 wi, .int .i64 ur, .slice Ao no co, .slice Ab nb cb, .int .u32 en, .int .i64 wn], .int .i64 f] w fun e w' => e = .returned (.bool (State.has fl f)) ∧ Below w.heap.size w w' := by
  have e1 : State.has fl f = (bits .and .i64 fl f != 0) := rfl
  have E1 := Lib.hid e1
  clear e1
  go_enter Try.func35, Try.ntmps35
  go_wp2
  go_ret
  refine ⟨ret_bool ?_, by repeat (first | exact Below.refl _ _ | refine Below.alloc ?_ (by simp) _)⟩
  rw [E1.out]
end Go.Proofs.Ytliibpajgdncpaa
