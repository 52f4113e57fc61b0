/- The walk of window.wrong. -/
import Derived.Test.YtliibpajgdncpaaWinWalks
import Derived.Test.YtliibpajgdncpaaStateSeq
import Derived.Deep.RegionHeld3
import Derived.Deep.QuietTactic
import Derived.BigQuiet
namespace Go.Proofs.Ytliibpajgdncpaa
open Go.RowKit
set_option linter.unusedVariables false
theorem dist_q (a b : Int) (w : World) (n : Nat) : Calls Try.prog 21 #[.int .u32 a, .int .u32 b] (w.drewN n) fun e w' => e = .returned (.int .i64 (Seq.dist a b)) ∧ ∃ m, w' = w.drewN m :=
  (seq_dist a b _).mono fun _ _ ⟨h, h'⟩ => ⟨h, n, h'.symm⟩
theorem step_q (a b : Int) (w : World) (n : Nat) : Calls Try.prog 22 #[.int .u32 a, .int .i64 b] (w.drewN n) fun e w' => e = .returned (.int .u32 (Seq.step a b)) ∧ ∃ m, w' = w.drewN m :=
  (seq_step a b _).mono fun _ _ ⟨h, h'⟩ => ⟨h, n, h'.symm⟩
theorem bel_drewN {B : Nat} {a w : World} (h : Below B a w) (k : Nat) : Below B a (w.drewN k) := ⟨h.os, h.tape, h.output, h.size, h.block⟩
theorem BlkV.six {w : World} {g : Nat} {T : TypeId} {a b c d e f : Value} {xs : List Value} (H : BlkV w g T (a :: b :: c :: d :: e :: f :: xs)) :
    w.cell? ⟨g, 0, none⟩ = some a ∧ w.cell? ⟨g, 1, none⟩ = some b ∧ w.cell? ⟨g, 2, none⟩ = some c ∧ w.cell? ⟨g, 3, none⟩ = some d ∧ w.cell? ⟨g, 4, none⟩ = some e ∧ w.cell? ⟨g, 5, none⟩ = some f :=
  ⟨H.cell rfl, H.cell rfl, H.cell rfl, H.cell rfl, H.cell rfl, H.cell rfl⟩
theorem BlkV.eleven' {w : World} {g : Nat} {T : TypeId} {a b c d e f h i j k l : Value} (H : BlkV w g T [a, b, c, d, e, f, h, i, j, k, l]) :
    w.cell? ⟨g, 0, none⟩ = some a ∧ w.cell? ⟨g, 1, none⟩ = some b ∧ w.cell? ⟨g, 2, none⟩ = some c ∧ w.cell? ⟨g, 3, none⟩ = some d ∧ w.cell? ⟨g, 4, none⟩ = some e ∧ w.cell? ⟨g, 5, none⟩ = some f ∧
    w.cell? ⟨g, 6, none⟩ = some h ∧ w.cell? ⟨g, 7, none⟩ = some i ∧ w.cell? ⟨g, 8, none⟩ = some j ∧ w.cell? ⟨g, 9, none⟩ = some k ∧ w.cell? ⟨g, 10, none⟩ = some l :=
  ⟨H.cell rfl, H.cell rfl, H.cell rfl, H.cell rfl, H.cell rfl, H.cell rfl, H.cell rfl, H.cell rfl, H.cell rfl, H.cell rfl, H.cell rfl⟩
set_option maxHeartbeats 4000000 in
theorem win_wrong (xe xm xu xw xs : Int) (xh : Bool) (ye ym yu yw ys : Int) (yh : Bool) (sp dp sq ak fl wi ur en wn : Int) (Ao : Option Addr) (no co : Nat) (Ab : Option Addr) (nb cb : Nat) (w : World)
    (hx0 : 1 ≤ xw) (hx1 : xw ≤ 1073741824) (hy0 : 1 ≤ yw) (hy1 : yw ≤ 1073741824) :
    Calls Try.prog 37 #[.agg #[.int .u32 xe, .int .u32 xm, .int .u32 xu, .int .i64 xw, .int .i64 xs, .bool xh], .agg #[.int .u32 ye, .int .u32 ym, .int .u32 yu, .int .i64 yw, .int .i64 ys, .bool yh], .agg (List.toArray [.int .i64 sp, .int .i64 dp, .int .u32 sq, .int .u32 ak, .int .i64 fl, .int .i64 wi, .int .i64 ur, .slice Ao no co, .slice Ab nb cb, .int .u32 en, .int .i64 wn])] w fun e w' => e = .returned (.int .i64 (Win.wrong ⟨xe, xm, xu, xw, xs, xh⟩ ⟨ye, ym, yu, yw, ys, yh⟩ ⟨sq, en, ak, wn, State.has fl 2, State.has fl 16⟩)) ∧ Below w.heap.size w w' := by
  obtain ⟨W, hW⟩ : ∃ W, W = ((w.alloc (.cells #[.int .u32 xe, .int .u32 xm, .int .u32 xu, .int .i64 xw, .int .i64 xs, .bool xh] 46)).alloc (.cells #[.int .u32 ye, .int .u32 ym, .int .u32 yu, .int .i64 yw, .int .i64 ys, .bool yh] 46)).alloc (.cells (List.toArray [.int .i64 sp, .int .i64 dp, .int .u32 sq, .int .u32 ak, .int .i64 fl, .int .i64 wi, .int .i64 ur, .slice Ao no co, .slice Ab nb cb, .int .u32 en, .int .i64 wn]) 70) := ⟨_, rfl⟩
  have hbW : Below w.heap.size w W := by rw [hW]; exact (((Below.refl _ _).alloc (Nat.le_refl _) _).alloc (by simp) _).alloc (by simp; omega) _
  have B0 : BlkV W w.heap.size 46 [.int .u32 xe, .int .u32 xm, .int .u32 xu, .int .i64 xw, .int .i64 xs, .bool xh] := by rw [hW]; exact ((BlkV.new _ _ _).alloc _).alloc _
  have B1 : BlkV W (w.heap.size + 1) 46 [.int .u32 ye, .int .u32 ym, .int .u32 yu, .int .i64 yw, .int .i64 ys, .bool yh] := by rw [hW]; exact (BlkV.new_at _ _ _ (by simp)).alloc _
  have B2 : BlkV W (w.heap.size + 1 + 1) 70 [.int .i64 sp, .int .i64 dp, .int .u32 sq, .int .u32 ak, .int .i64 fl, .int .i64 wi, .int .i64 ur, .slice Ao no co, .slice Ab nb cb, .int .u32 en, .int .i64 wn] := by rw [hW]; exact BlkV.new_at _ _ _ (by simp)
  obtain ⟨a0, a1, a2, a3, a4, a5⟩ := B0.six
  obtain ⟨b0, b1, b2, b3, b4, b5⟩ := B1.six
  obtain ⟨v0, v1, v2, v3, v4, v5, v6, v7, v8, v9, v10⟩ := B2.eleven'
  have BB1 := Lib.hid B1
  have BB0 := Lib.hid B0
  have BB2 := Lib.hid B2
  have hlt := B2.lt
  have w1 : IntKind.i64.wrap (-yw) = -yw := IntWalk.i64_in _ (by omega)
  have w2 : IntKind.i64.wrap (-66000 - xw) = -66000 - xw := IntWalk.i64_in _ (by omega)
  have HC3 := fun w' => win_has sp dp sq ak fl wi ur en wn Ao no co Ab nb cb 16 w'
  have HD : Hid (Win.wrong ⟨xe, xm, xu, xw, xs, xh⟩ ⟨ye, ym, yu, yw, ys, yh⟩ ⟨sq, en, ak, wn, State.has fl 2, State.has fl 16⟩ = if 0 < Seq.dist xm en then 1
    else if Seq.dist (Seq.step xe (-yw)) sq < 0 then 2
    else if State.has fl 16 = false then 0
    else if 0 < Seq.dist ye ak then 3
    else if Seq.dist (Seq.step ye (-66000 - xw)) ak < 0 then 4
    else 0) := Lib.hid rfl
  generalize Win.wrong ⟨xe, xm, xu, xw, xs, xh⟩ ⟨ye, ym, yu, yw, ys, yh⟩ ⟨sq, en, ak, wn, State.has fl 2, State.has fl 16⟩ = res at HD
  clear B0 B1 B2 hx0 hx1 hy0 hy1
  go_enter Try.func37, Try.ntmps37
  go_wp2_with fail
  rw [← hW]
  clear hW
  refine (seq_dist xm en _).mono ?_
  rintro e w' ⟨rfl, rfl⟩
  by_cases h1 : 0 < Seq.dist xm en
  · go_wp2_with fail
    go_ret
    exact ⟨ret_int (by rw [HD.out, if_pos h1]), hbW⟩
  have HD1 := Lib.hid (HD.out.trans (if_neg h1))
  clear HD
  go_wp2_with fail
  go_quiet (first | (go_at_call 21; exact dist_q _ _ _ _) | (go_at_call 22; exact step_q _ _ _ _))
  by_cases h2 : Seq.dist (Seq.step xe (-yw)) sq < 0
  · go_wp2_with fail
    go_ret
    exact ⟨ret_int (by rw [HD1.out, if_pos h2]), bel_drewN hbW _⟩
  have HD2 := Lib.hid (HD1.out.trans (if_neg h2))
  clear HD1 h1
  go_wp2_with fail
  refine (HC3 _).mono ?_
  rintro e w3 ⟨rfl, hb3⟩
  have hb3' : Below W.heap.size W w3 := ⟨hb3.os, hb3.tape, hb3.output, hb3.size, hb3.block⟩
  have hbF := bel_then hbW hb3'
  have B0 := BB0.out.below hb3'
  have B1 := BB1.out.below hb3'
  have B2 := BB2.out.below hb3'
  clear a0 a1 a2 a3 a4 a5 b0 b1 b2 b3 b4 b5 v0 v1 v2 v3 v4 v5 v6 v7 v8 v9 v10 hb3 hb3' hbW hlt BB0 BB1 BB2 HC3
  obtain ⟨a0, a1, a2, a3, a4, a5⟩ := B0.six
  obtain ⟨b0, b1, b2, b3, b4, b5⟩ := B1.six
  obtain ⟨v0, v1, v2, v3, v4, v5, v6, v7, v8, v9, v10⟩ := B2.eleven'
  have hlt := B2.lt
  clear B0 B1 B2
  cases hack : State.has fl 16
  · go_wp2_with fail
    go_ret
    exact ⟨ret_int (by rw [HD2.out, if_pos hack]), hbF⟩
  have HD3 := Lib.hid (HD2.out.trans (if_neg (by rw [hack]; decide)))
  clear HD2 hack
  go_wp2_with fail
  refine (seq_dist ye ak _).mono ?_
  rintro e w' ⟨rfl, rfl⟩
  by_cases h3 : 0 < Seq.dist ye ak
  · go_wp2_with fail
    go_ret
    exact ⟨ret_int (by rw [HD3.out, if_pos h3]), hbF⟩
  have HD4 := Lib.hid (HD3.out.trans (if_neg h3))
  clear HD3
  go_wp2_with fail
  go_quiet (first | (go_at_call 21; exact dist_q _ _ _ _) | (go_at_call 22; exact step_q _ _ _ _))
  by_cases h4 : Seq.dist (Seq.step ye (-66000 - xw)) ak < 0
  · go_wp2_with fail
    go_ret
    exact ⟨ret_int (by rw [HD4.out, if_pos h4]), bel_drewN hbF _⟩
  have HD5 := Lib.hid (HD4.out.trans (if_neg h4))
  clear HD4
  go_wp2_with fail
  go_ret
  exact ⟨ret_int HD5.out.symm, bel_drewN hbF _⟩
end Go.Proofs.Ytliibpajgdncpaa
