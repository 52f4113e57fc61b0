/- The walk of window.first, for either side (printed by tools/gen_winfirst.py). -/
import Derived.Test.YtliibpajgdncpaaWinScale2
import Derived.Deep.RegionHeld3
import Derived.Deep.DeepCutAuto
namespace Go.Proofs.Ytliibpajgdncpaa
open Go.RowKit
set_option linter.unusedVariables false
theorem bel_low {w W w' : World} (h : Below w.heap.size w W) (k : Below w.heap.size W w') : Below w.heap.size w w' := h.trans k
theorem BlkV.ele {w : World} {g : Nat} {T : TypeId} {a b c d e f h i j k l : Value} (H : BlkV w g T [a, b, c, d, e, f, h, i, j, k, l]) :
    w.cell? ⟨g, 0, none⟩ = some a ∧ w.cell? ⟨g, 1, none⟩ = some b ∧ w.cell? ⟨g, 2, none⟩ = some c ∧ w.cell? ⟨g, 3, none⟩ = some d ∧ w.cell? ⟨g, 4, none⟩ = some e ∧ w.cell? ⟨g, 5, none⟩ = some f ∧
    w.cell? ⟨g, 6, none⟩ = some h ∧ w.cell? ⟨g, 7, none⟩ = some i ∧ w.cell? ⟨g, 8, none⟩ = some j ∧ w.cell? ⟨g, 9, none⟩ = some k ∧ w.cell? ⟨g, 10, none⟩ = some l :=
  ⟨H.cell rfl, H.cell rfl, H.cell rfl, H.cell rfl, H.cell rfl, H.cell rfl, H.cell rfl, H.cell rfl, H.cell rfl, H.cell rfl, H.cell rfl⟩
theorem BlkV.free12 {w : World} {g : Nat} {T : TypeId} {xs : List Value} (h : BlkV w g T xs) :
    w.frozen? ⟨g, 0, none⟩ = false ∧ w.frozen? ⟨g, 1, none⟩ = false ∧ w.frozen? ⟨g, 2, none⟩ = false ∧ w.frozen? ⟨g, 3, none⟩ = false ∧ w.frozen? ⟨g, 4, none⟩ = false ∧ w.frozen? ⟨g, 5, none⟩ = false ∧ w.frozen? ⟨g, 6, none⟩ = false ∧
    w.frozen? ⟨g, 7, none⟩ = false ∧ w.frozen? ⟨g, 8, none⟩ = false ∧ w.frozen? ⟨g, 9, none⟩ = false ∧ w.frozen? ⟨g, 10, none⟩ = false ∧ w.frozen? ⟨g, 11, none⟩ = false :=
  ⟨h.unfrozen _, h.unfrozen _, h.unfrozen _, h.unfrozen _, h.unfrozen _, h.unfrozen _, h.unfrozen _, h.unfrozen _, h.unfrozen _, h.unfrozen _, h.unfrozen _, h.unfrozen _⟩
theorem BlkV.six0 {w : World} {g : Nat} {T : TypeId} {a b c d e f h i j k l m : Value} (H : BlkV w g T [a, b, c, d, e, f, h, i, j, k, l, m]) {x0 x1 x2 x3 x4 x5 : Value} :
    BlkV ((((((w.setCell ⟨g, 0, none⟩ x0).setCell ⟨g, 1, none⟩ x1).setCell ⟨g, 2, none⟩ x2).setCell ⟨g, 3, none⟩ x3).setCell ⟨g, 4, none⟩ x4).setCell ⟨g, 5, none⟩ x5) g T [x0, x1, x2, x3, x4, x5, h, i, j, k, l, m] :=
  ((((((H.put 0 x0).put 1 x1).put 2 x2).put 3 x3).put 4 x4).put 5 x5).fit rfl
theorem Below.six0 {B g : Nat} {a w : World} (h : Below B a w) (hg : B ≤ g) {x0 x1 x2 x3 x4 x5 : Value} : Below B a ((((((w.setCell ⟨g, 0, none⟩ x0).setCell ⟨g, 1, none⟩ x1).setCell ⟨g, 2, none⟩ x2).setCell ⟨g, 3, none⟩ x3).setCell ⟨g, 4, none⟩ x4).setCell ⟨g, 5, none⟩ x5) :=
  (((((h.setCell hg x0).setCell hg x1).setCell hg x2).setCell hg x3).setCell hg x4).setCell hg x5
theorem BlkV.off0 {w : World} {g g' : Nat} {T : TypeId} {xs : List Value} (H : BlkV w g' T xs) (hne : ¬ g = g') {x0 x1 x2 x3 x4 x5 : Value} :
    BlkV ((((((w.setCell ⟨g, 0, none⟩ x0).setCell ⟨g, 1, none⟩ x1).setCell ⟨g, 2, none⟩ x2).setCell ⟨g, 3, none⟩ x3).setCell ⟨g, 4, none⟩ x4).setCell ⟨g, 5, none⟩ x5) g' T xs :=
  (((((H.other hne x0).other hne x1).other hne x2).other hne x3).other hne x4).other hne x5
theorem BlkV.six1 {w : World} {g : Nat} {T : TypeId} {a b c d e f h i j k l m : Value} (H : BlkV w g T [a, b, c, d, e, f, h, i, j, k, l, m]) {x0 x1 x2 x3 x4 x5 : Value} :
    BlkV ((((((w.setCell ⟨g, 6, none⟩ x0).setCell ⟨g, 7, none⟩ x1).setCell ⟨g, 8, none⟩ x2).setCell ⟨g, 9, none⟩ x3).setCell ⟨g, 10, none⟩ x4).setCell ⟨g, 11, none⟩ x5) g T [a, b, c, d, e, f, x0, x1, x2, x3, x4, x5] :=
  ((((((H.put 6 x0).put 7 x1).put 8 x2).put 9 x3).put 10 x4).put 11 x5).fit rfl
theorem Below.six1 {B g : Nat} {a w : World} (h : Below B a w) (hg : B ≤ g) {x0 x1 x2 x3 x4 x5 : Value} : Below B a ((((((w.setCell ⟨g, 6, none⟩ x0).setCell ⟨g, 7, none⟩ x1).setCell ⟨g, 8, none⟩ x2).setCell ⟨g, 9, none⟩ x3).setCell ⟨g, 10, none⟩ x4).setCell ⟨g, 11, none⟩ x5) :=
  (((((h.setCell hg x0).setCell hg x1).setCell hg x2).setCell hg x3).setCell hg x4).setCell hg x5
theorem BlkV.off1 {w : World} {g g' : Nat} {T : TypeId} {xs : List Value} (H : BlkV w g' T xs) (hne : ¬ g = g') {x0 x1 x2 x3 x4 x5 : Value} :
    BlkV ((((((w.setCell ⟨g, 6, none⟩ x0).setCell ⟨g, 7, none⟩ x1).setCell ⟨g, 8, none⟩ x2).setCell ⟨g, 9, none⟩ x3).setCell ⟨g, 10, none⟩ x4).setCell ⟨g, 11, none⟩ x5) g' T xs :=
  (((((H.other hne x0).other hne x1).other hne x2).other hne x3).other hne x4).other hne x5
set_option maxHeartbeats 4000000 in
theorem win_first0 (xe xm xu xw xs : Int) (xh : Bool) (ye ym yu yw ys : Int) (yh : Bool) (sp dp sq ak fl wi ur en wn : Int) (Ao : Option Addr) (no co : Nat) (Ab : Option Addr) (nb cb : Nat) (l : List Tcp.Opt) (w : World) (hO : Tcp.OptsRd w Ao no l) (hn : no ≤ 9223372036854775807) (h300 : ∀ o ∈ l, o.n ≤ 300) :
    Calls Try.prog 36 #[.agg (List.toArray [.int .u32 xe, .int .u32 xm, .int .u32 xu, .int .i64 xw, .int .i64 xs, .bool xh, .int .u32 ye, .int .u32 ym, .int .u32 yu, .int .i64 yw, .int .i64 ys, .bool yh]), .int .i64 0, .agg (List.toArray [.int .i64 sp, .int .i64 dp, .int .u32 sq, .int .u32 ak, .int .i64 fl, .int .i64 wi, .int .i64 ur, .slice Ao no co, .slice Ab nb cb, .int .u32 en, .int .i64 wn])] w fun e w' => e = .returned (.agg (List.toArray ((Win.first (⟨ye, ym, yu, yw, ys, yh⟩ : Win.S) (⟨sq, en, ak, wn, State.has fl 2, State.has fl 16⟩ : Win.G) (Win.scale l)).1.cells ++ (Win.first (⟨ye, ym, yu, yw, ys, yh⟩ : Win.S) (⟨sq, en, ak, wn, State.has fl 2, State.has fl 16⟩ : Win.G) (Win.scale l)).2.cells))) ∧ Below w.heap.size w w' := by
  obtain ⟨W, hW⟩ : ∃ W, W = ((w.alloc (.cells (List.toArray [.int .u32 xe, .int .u32 xm, .int .u32 xu, .int .i64 xw, .int .i64 xs, .bool xh, .int .u32 ye, .int .u32 ym, .int .u32 yu, .int .i64 yw, .int .i64 ys, .bool yh]) 47)).alloc (.cells (List.toArray [.int .i64 sp, .int .i64 dp, .int .u32 sq, .int .u32 ak, .int .i64 fl, .int .i64 wi, .int .i64 ur, .slice Ao no co, .slice Ab nb cb, .int .u32 en, .int .i64 wn]) 70)).alloc (.cells (List.toArray [.int .u32 0, .int .u32 0, .int .u32 0, .int .i64 0, .int .i64 0, .bool false, .int .u32 0, .int .u32 0, .int .u32 0, .int .i64 0, .int .i64 0, .bool false]) 47) := ⟨_, rfl⟩
  have hbW : Below w.heap.size w W := by rw [hW]; exact (((Below.refl _ _).alloc (Nat.le_refl _) _).alloc (by simp) _).alloc (by simp; omega) _
  have B0 : BlkV W w.heap.size 47 [.int .u32 xe, .int .u32 xm, .int .u32 xu, .int .i64 xw, .int .i64 xs, .bool xh, .int .u32 ye, .int .u32 ym, .int .u32 yu, .int .i64 yw, .int .i64 ys, .bool yh] := by rw [hW]; exact ((BlkV.new _ _ _).alloc _).alloc _
  have B1 : BlkV W (w.heap.size + 1) 70 [.int .i64 sp, .int .i64 dp, .int .u32 sq, .int .u32 ak, .int .i64 fl, .int .i64 wi, .int .i64 ur, .slice Ao no co, .slice Ab nb cb, .int .u32 en, .int .i64 wn] := by rw [hW]; exact (BlkV.new_at _ _ _ (by simp)).alloc _
  have B2 : BlkV W (w.heap.size + 1 + 1) 47 [.int .u32 0, .int .u32 0, .int .u32 0, .int .i64 0, .int .i64 0, .bool false, .int .u32 0, .int .u32 0, .int .u32 0, .int .i64 0, .int .i64 0, .bool false] := by rw [hW]; exact BlkV.new_at _ _ _ (by simp)
  have HC1 : Hid (∀ w' : World, Below W.heap.size W w' → Calls Try.prog 40 #[.agg #[.int .i64 sp, .int .i64 dp, .int .u32 sq, .int .u32 ak, .int .i64 fl, .int .i64 wi, .int .i64 ur, .slice Ao no co, .slice Ab nb cb]] w' fun e w2 => e = .returned (.int .i64 (Win.scale l)) ∧ Below w'.heap.size w' w2) := Lib.hid fun w' hb => win_scale sp dp sq ak fl wi ur Ao no co Ab nb cb l w' ((hO.below hbW).below hb) hn h300
  have HD : Hid (Win.first (⟨ye, ym, yu, yw, ys, yh⟩ : Win.S) (⟨sq, en, ak, wn, State.has fl 2, State.has fl 16⟩ : Win.G) (Win.scale l) = if (yh && (decide (Win.scale l < 0) || decide (ys < 0))) = true then (⟨en, en, sq, wn, 0, true⟩, ⟨ye, ym, yu, yw, 0, yh⟩) else (⟨en, en, sq, wn, Win.scale l, true⟩, ⟨ye, ym, yu, yw, ys, yh⟩)) := Lib.hid rfl
  generalize Win.first (⟨ye, ym, yu, yw, ys, yh⟩ : Win.S) (⟨sq, en, ak, wn, State.has fl 2, State.has fl 16⟩ : Win.G) (Win.scale l) = F at HD
  generalize Win.scale l = sc at HD HC1
  have KF : Hid (∀ w' : World, Below W.heap.size W w' → w'.cell? ⟨w.heap.size + 1, 0, none⟩ = some (.int .i64 sp) ∧ w'.cell? ⟨w.heap.size + 1, 1, none⟩ = some (.int .i64 dp) ∧ w'.cell? ⟨w.heap.size + 1, 2, none⟩ = some (.int .u32 sq) ∧ w'.cell? ⟨w.heap.size + 1, 3, none⟩ = some (.int .u32 ak) ∧ w'.cell? ⟨w.heap.size + 1, 4, none⟩ = some (.int .i64 fl) ∧ w'.cell? ⟨w.heap.size + 1, 5, none⟩ = some (.int .i64 wi) ∧ w'.cell? ⟨w.heap.size + 1, 6, none⟩ = some (.int .i64 ur) ∧ w'.cell? ⟨w.heap.size + 1, 7, none⟩ = some (.slice Ao no co) ∧ w'.cell? ⟨w.heap.size + 1, 8, none⟩ = some (.slice Ab nb cb) ∧ w'.cell? ⟨w.heap.size + 1, 9, none⟩ = some (.int .u32 en) ∧ w'.cell? ⟨w.heap.size + 1, 10, none⟩ = some (.int .i64 wn)) := Lib.hid fun w' hb => (B1.below hb).ele
  have hlow : w.heap.size < W.heap.size := B0.lt
  have hne : ¬ w.heap.size = w.heap.size + 1 := by omega
  obtain ⟨v0, v1, v2, v3, v4, v5, v6, v7, v8, v9, v10⟩ := B1.ele
  have hWs : w.heap.size + 1 + 1 < W.heap.size := B2.lt
  have BB0 := Lib.hid B0
  have BB2 := Lib.hid B2
  have BB1 := Lib.hid B1
  have HBW := Lib.hid hbW
  clear B0 B1 B2 hbW hO hn h300
  go_enter Try.func36, Try.ntmps36
  go_wp2_with fail
  rw [← hW]
  clear hW
  go_cut [] (fun wx => Below w.heap.size w wx ∧ BlkV wx w.heap.size 47 [.int .u32 en, .int .u32 en, .int .u32 sq, .int .i64 wn, .int .i64 sc, .bool true, .int .u32 ye, .int .u32 ym, .int .u32 yu, .int .i64 yw, .int .i64 ys, .bool yh] ∧ BlkV wx (w.heap.size + 1 + 1) 47 [.int .u32 0, .int .u32 0, .int .u32 0, .int .i64 0, .int .i64 0, .bool false, .int .u32 0, .int .u32 0, .int .u32 0, .int .i64 0, .int .i64 0, .bool false])
  case first =>
    go_region_held3 (fun w' => w'.cell? ⟨w.heap.size + 1, 0, none⟩ = some (.int .i64 sp) ∧ w'.cell? ⟨w.heap.size + 1, 1, none⟩ = some (.int .i64 dp) ∧ w'.cell? ⟨w.heap.size + 1, 2, none⟩ = some (.int .u32 sq) ∧ w'.cell? ⟨w.heap.size + 1, 3, none⟩ = some (.int .u32 ak) ∧ w'.cell? ⟨w.heap.size + 1, 4, none⟩ = some (.int .i64 fl) ∧ w'.cell? ⟨w.heap.size + 1, 5, none⟩ = some (.int .i64 wi) ∧ w'.cell? ⟨w.heap.size + 1, 6, none⟩ = some (.int .i64 ur) ∧ w'.cell? ⟨w.heap.size + 1, 7, none⟩ = some (.slice Ao no co) ∧ w'.cell? ⟨w.heap.size + 1, 8, none⟩ = some (.slice Ab nb cb) ∧ w'.cell? ⟨w.heap.size + 1, 9, none⟩ = some (.int .u32 en) ∧ w'.cell? ⟨w.heap.size + 1, 10, none⟩ = some (.int .i64 wn)) (first | with_reducible exact (BlkV.off0 zs hne).ele | exact KF.out _ (by repeat (first | with_reducible exact hbn | with_reducible exact Below.refl W.heap.size W | with_reducible refine Below.drewN ?_ _ | with_reducible refine Below.drew ?_ | with_reducible refine Below.setCell ?_ (by simp) _)))
      (with_reducible first | (refine (HC1.out _ (by repeat (first | with_reducible exact hbn | with_reducible exact Below.refl W.heap.size W | with_reducible refine Below.drewN ?_ _ | with_reducible refine Below.drew ?_ | with_reducible refine Below.setCell ?_ (by simp) _))).mono ?_; rintro e w9 ⟨rfl, hb9⟩; have hbn : Below W.heap.size W w9 := bel_then (by repeat (first | with_reducible exact hbn | with_reducible exact Below.refl W.heap.size W | with_reducible refine Below.drewN ?_ _ | with_reducible refine Below.drew ?_ | with_reducible refine Below.setCell ?_ (by simp) _)) hb9; have zb := BB0.out.below hbn; have zc := BB2.out.below hbn; have zs := BB1.out.below hbn; obtain ⟨y0, y1, y2, y3, y4, y5, y6, y7, y8, y9, y10, y11⟩ := zb.free12; obtain ⟨a0, a1, a2, a3, a4, a5, a6, a7, a8, a9, a10, a11⟩ := zb.twelve))
    all_goals
      go_wp2_with fail
      go_meet
      have hlow9 : Below w.heap.size W w9 := Below.mono hbn (Nat.le_of_lt hlow)
      refine ⟨bel_low HBW.out ?_, ?_, ?_⟩
      · with_reducible exact Below.six0 hlow9 (Nat.le_refl _)
      · with_reducible exact BlkV.six0 zb
      · with_reducible exact BlkV.off0 zc (by omega)
  case rest =>
    obtain ⟨hbx, X0, X2⟩ := hcut
    clear HC1 v0 v1 v2 v3 v4 v5 v6 v7 v8 v9 v10 KF BB0 BB2 HBW hWs BB1 hne hlow
    obtain ⟨a0, a1, a2, a3, a4, a5, a6, a7, a8, a9, a10, a11⟩ := X0.twelve
    obtain ⟨y0, y1, y2, y3, y4, y5, y6, y7, y8, y9, y10, y11⟩ := X0.free12
    obtain ⟨c0, c1, c2, c3, c4, c5, c6, c7, c8, c9, c10, c11⟩ := X2.twelve
    obtain ⟨z0, z1, z2, z3, z4, z5, z6, z7, z8, z9, z10, z11⟩ := X2.free12
    have hlt := X0.lt
    have hlt2 := X2.lt
    clear X0 X2
    cases yh
    · have HF := Lib.hid (HD.out.trans (if_neg (by simp)))
      clear HD
      go_wp2_with fail
      refine bodyPost_ret (v := .agg #[.int .u32 en, .int .u32 en, .int .u32 sq, .int .i64 wn, .int .i64 sc, .bool true, .int .u32 ye, .int .u32 ym, .int .u32 yu, .int .i64 yw, .int .i64 ys, .bool false]) (by simp [results, Try.results36, go_sem, c0, c1, c2, c3, c4, c5, c6, c7, c8, c9, c10, c11]) rfl ⟨?_, by repeat (first | with_reducible exact hbx | with_reducible refine Below.setCell ?_ (by simp; try omega) _)⟩
      rw [HF.out]
      rfl
    by_cases h1 : sc < 0
    · have HF := Lib.hid (HD.out.trans (if_pos (by simp [h1])))
      clear HD
      go_wp2_with fail
      all_goals
        refine bodyPost_ret (v := .agg #[.int .u32 en, .int .u32 en, .int .u32 sq, .int .i64 wn, .int .i64 0, .bool true, .int .u32 ye, .int .u32 ym, .int .u32 yu, .int .i64 yw, .int .i64 0, .bool true]) (by simp [results, Try.results36, go_sem, c0, c1, c2, c3, c4, c5, c6, c7, c8, c9, c10, c11]) rfl ⟨?_, by repeat (first | with_reducible exact hbx | with_reducible refine Below.setCell ?_ (by simp; try omega) _)⟩
        rw [HF.out]
        rfl
    by_cases h2 : ys < 0
    · have HF := Lib.hid (HD.out.trans (if_pos (by simp [h2])))
      clear HD
      go_wp2_with fail
      all_goals
        refine bodyPost_ret (v := .agg #[.int .u32 en, .int .u32 en, .int .u32 sq, .int .i64 wn, .int .i64 0, .bool true, .int .u32 ye, .int .u32 ym, .int .u32 yu, .int .i64 yw, .int .i64 0, .bool true]) (by simp [results, Try.results36, go_sem, c0, c1, c2, c3, c4, c5, c6, c7, c8, c9, c10, c11]) rfl ⟨?_, by repeat (first | with_reducible exact hbx | with_reducible refine Below.setCell ?_ (by simp; try omega) _)⟩
        rw [HF.out]
        rfl
    have HF := Lib.hid (HD.out.trans (if_neg (by simp; omega)))
    clear HD
    go_wp2_with fail
    all_goals
      refine bodyPost_ret (v := .agg #[.int .u32 en, .int .u32 en, .int .u32 sq, .int .i64 wn, .int .i64 sc, .bool true, .int .u32 ye, .int .u32 ym, .int .u32 yu, .int .i64 yw, .int .i64 ys, .bool true]) (by simp [results, Try.results36, go_sem, c0, c1, c2, c3, c4, c5, c6, c7, c8, c9, c10, c11]) rfl ⟨?_, by repeat (first | with_reducible exact hbx | with_reducible refine Below.setCell ?_ (by simp; try omega) _)⟩
      rw [HF.out]
      rfl
set_option maxHeartbeats 4000000 in
theorem win_first1 (xe xm xu xw xs : Int) (xh : Bool) (ye ym yu yw ys : Int) (yh : Bool) (sp dp sq ak fl wi ur en wn : Int) (Ao : Option Addr) (no co : Nat) (Ab : Option Addr) (nb cb : Nat) (l : List Tcp.Opt) (w : World) (hO : Tcp.OptsRd w Ao no l) (hn : no ≤ 9223372036854775807) (h300 : ∀ o ∈ l, o.n ≤ 300) :
    Calls Try.prog 36 #[.agg (List.toArray [.int .u32 xe, .int .u32 xm, .int .u32 xu, .int .i64 xw, .int .i64 xs, .bool xh, .int .u32 ye, .int .u32 ym, .int .u32 yu, .int .i64 yw, .int .i64 ys, .bool yh]), .int .i64 1, .agg (List.toArray [.int .i64 sp, .int .i64 dp, .int .u32 sq, .int .u32 ak, .int .i64 fl, .int .i64 wi, .int .i64 ur, .slice Ao no co, .slice Ab nb cb, .int .u32 en, .int .i64 wn])] w fun e w' => e = .returned (.agg (List.toArray ((Win.first (⟨xe, xm, xu, xw, xs, xh⟩ : Win.S) (⟨sq, en, ak, wn, State.has fl 2, State.has fl 16⟩ : Win.G) (Win.scale l)).2.cells ++ (Win.first (⟨xe, xm, xu, xw, xs, xh⟩ : Win.S) (⟨sq, en, ak, wn, State.has fl 2, State.has fl 16⟩ : Win.G) (Win.scale l)).1.cells))) ∧ Below w.heap.size w w' := by
  obtain ⟨W, hW⟩ : ∃ W, W = ((w.alloc (.cells (List.toArray [.int .u32 xe, .int .u32 xm, .int .u32 xu, .int .i64 xw, .int .i64 xs, .bool xh, .int .u32 ye, .int .u32 ym, .int .u32 yu, .int .i64 yw, .int .i64 ys, .bool yh]) 47)).alloc (.cells (List.toArray [.int .i64 sp, .int .i64 dp, .int .u32 sq, .int .u32 ak, .int .i64 fl, .int .i64 wi, .int .i64 ur, .slice Ao no co, .slice Ab nb cb, .int .u32 en, .int .i64 wn]) 70)).alloc (.cells (List.toArray [.int .u32 0, .int .u32 0, .int .u32 0, .int .i64 0, .int .i64 0, .bool false, .int .u32 0, .int .u32 0, .int .u32 0, .int .i64 0, .int .i64 0, .bool false]) 47) := ⟨_, rfl⟩
  have hbW : Below w.heap.size w W := by rw [hW]; exact (((Below.refl _ _).alloc (Nat.le_refl _) _).alloc (by simp) _).alloc (by simp; omega) _
  have B0 : BlkV W w.heap.size 47 [.int .u32 xe, .int .u32 xm, .int .u32 xu, .int .i64 xw, .int .i64 xs, .bool xh, .int .u32 ye, .int .u32 ym, .int .u32 yu, .int .i64 yw, .int .i64 ys, .bool yh] := by rw [hW]; exact ((BlkV.new _ _ _).alloc _).alloc _
  have B1 : BlkV W (w.heap.size + 1) 70 [.int .i64 sp, .int .i64 dp, .int .u32 sq, .int .u32 ak, .int .i64 fl, .int .i64 wi, .int .i64 ur, .slice Ao no co, .slice Ab nb cb, .int .u32 en, .int .i64 wn] := by rw [hW]; exact (BlkV.new_at _ _ _ (by simp)).alloc _
  have B2 : BlkV W (w.heap.size + 1 + 1) 47 [.int .u32 0, .int .u32 0, .int .u32 0, .int .i64 0, .int .i64 0, .bool false, .int .u32 0, .int .u32 0, .int .u32 0, .int .i64 0, .int .i64 0, .bool false] := by rw [hW]; exact BlkV.new_at _ _ _ (by simp)
  have HC1 : Hid (∀ w' : World, Below W.heap.size W w' → Calls Try.prog 40 #[.agg #[.int .i64 sp, .int .i64 dp, .int .u32 sq, .int .u32 ak, .int .i64 fl, .int .i64 wi, .int .i64 ur, .slice Ao no co, .slice Ab nb cb]] w' fun e w2 => e = .returned (.int .i64 (Win.scale l)) ∧ Below w'.heap.size w' w2) := Lib.hid fun w' hb => win_scale sp dp sq ak fl wi ur Ao no co Ab nb cb l w' ((hO.below hbW).below hb) hn h300
  have HD : Hid (Win.first (⟨xe, xm, xu, xw, xs, xh⟩ : Win.S) (⟨sq, en, ak, wn, State.has fl 2, State.has fl 16⟩ : Win.G) (Win.scale l) = if (xh && (decide (Win.scale l < 0) || decide (xs < 0))) = true then (⟨en, en, sq, wn, 0, true⟩, ⟨xe, xm, xu, xw, 0, xh⟩) else (⟨en, en, sq, wn, Win.scale l, true⟩, ⟨xe, xm, xu, xw, xs, xh⟩)) := Lib.hid rfl
  generalize Win.first (⟨xe, xm, xu, xw, xs, xh⟩ : Win.S) (⟨sq, en, ak, wn, State.has fl 2, State.has fl 16⟩ : Win.G) (Win.scale l) = F at HD
  generalize Win.scale l = sc at HD HC1
  have KF : Hid (∀ w' : World, Below W.heap.size W w' → w'.cell? ⟨w.heap.size + 1, 0, none⟩ = some (.int .i64 sp) ∧ w'.cell? ⟨w.heap.size + 1, 1, none⟩ = some (.int .i64 dp) ∧ w'.cell? ⟨w.heap.size + 1, 2, none⟩ = some (.int .u32 sq) ∧ w'.cell? ⟨w.heap.size + 1, 3, none⟩ = some (.int .u32 ak) ∧ w'.cell? ⟨w.heap.size + 1, 4, none⟩ = some (.int .i64 fl) ∧ w'.cell? ⟨w.heap.size + 1, 5, none⟩ = some (.int .i64 wi) ∧ w'.cell? ⟨w.heap.size + 1, 6, none⟩ = some (.int .i64 ur) ∧ w'.cell? ⟨w.heap.size + 1, 7, none⟩ = some (.slice Ao no co) ∧ w'.cell? ⟨w.heap.size + 1, 8, none⟩ = some (.slice Ab nb cb) ∧ w'.cell? ⟨w.heap.size + 1, 9, none⟩ = some (.int .u32 en) ∧ w'.cell? ⟨w.heap.size + 1, 10, none⟩ = some (.int .i64 wn)) := Lib.hid fun w' hb => (B1.below hb).ele
  have hlow : w.heap.size < W.heap.size := B0.lt
  have hne : ¬ w.heap.size = w.heap.size + 1 := by omega
  obtain ⟨v0, v1, v2, v3, v4, v5, v6, v7, v8, v9, v10⟩ := B1.ele
  have hWs : w.heap.size + 1 + 1 < W.heap.size := B2.lt
  have BB0 := Lib.hid B0
  have BB2 := Lib.hid B2
  have BB1 := Lib.hid B1
  have HBW := Lib.hid hbW
  clear B0 B1 B2 hbW hO hn h300
  go_enter Try.func36, Try.ntmps36
  go_wp2_with fail
  rw [← hW]
  clear hW
  go_cut [] (fun wx => Below w.heap.size w wx ∧ BlkV wx w.heap.size 47 [.int .u32 xe, .int .u32 xm, .int .u32 xu, .int .i64 xw, .int .i64 xs, .bool xh, .int .u32 en, .int .u32 en, .int .u32 sq, .int .i64 wn, .int .i64 sc, .bool true] ∧ BlkV wx (w.heap.size + 1 + 1) 47 [.int .u32 0, .int .u32 0, .int .u32 0, .int .i64 0, .int .i64 0, .bool false, .int .u32 0, .int .u32 0, .int .u32 0, .int .i64 0, .int .i64 0, .bool false])
  case first =>
    go_region_held3 (fun w' => w'.cell? ⟨w.heap.size + 1, 0, none⟩ = some (.int .i64 sp) ∧ w'.cell? ⟨w.heap.size + 1, 1, none⟩ = some (.int .i64 dp) ∧ w'.cell? ⟨w.heap.size + 1, 2, none⟩ = some (.int .u32 sq) ∧ w'.cell? ⟨w.heap.size + 1, 3, none⟩ = some (.int .u32 ak) ∧ w'.cell? ⟨w.heap.size + 1, 4, none⟩ = some (.int .i64 fl) ∧ w'.cell? ⟨w.heap.size + 1, 5, none⟩ = some (.int .i64 wi) ∧ w'.cell? ⟨w.heap.size + 1, 6, none⟩ = some (.int .i64 ur) ∧ w'.cell? ⟨w.heap.size + 1, 7, none⟩ = some (.slice Ao no co) ∧ w'.cell? ⟨w.heap.size + 1, 8, none⟩ = some (.slice Ab nb cb) ∧ w'.cell? ⟨w.heap.size + 1, 9, none⟩ = some (.int .u32 en) ∧ w'.cell? ⟨w.heap.size + 1, 10, none⟩ = some (.int .i64 wn)) (first | with_reducible exact (BlkV.off1 zs hne).ele | exact KF.out _ (by repeat (first | with_reducible exact hbn | with_reducible exact Below.refl W.heap.size W | with_reducible refine Below.drewN ?_ _ | with_reducible refine Below.drew ?_ | with_reducible refine Below.setCell ?_ (by simp) _)))
      (with_reducible first | (refine (HC1.out _ (by repeat (first | with_reducible exact hbn | with_reducible exact Below.refl W.heap.size W | with_reducible refine Below.drewN ?_ _ | with_reducible refine Below.drew ?_ | with_reducible refine Below.setCell ?_ (by simp) _))).mono ?_; rintro e w9 ⟨rfl, hb9⟩; have hbn : Below W.heap.size W w9 := bel_then (by repeat (first | with_reducible exact hbn | with_reducible exact Below.refl W.heap.size W | with_reducible refine Below.drewN ?_ _ | with_reducible refine Below.drew ?_ | with_reducible refine Below.setCell ?_ (by simp) _)) hb9; have zb := BB0.out.below hbn; have zc := BB2.out.below hbn; have zs := BB1.out.below hbn; obtain ⟨y0, y1, y2, y3, y4, y5, y6, y7, y8, y9, y10, y11⟩ := zb.free12; obtain ⟨a0, a1, a2, a3, a4, a5, a6, a7, a8, a9, a10, a11⟩ := zb.twelve))
    all_goals
      go_wp2_with fail
      go_meet
      have hlow9 : Below w.heap.size W w9 := Below.mono hbn (Nat.le_of_lt hlow)
      refine ⟨bel_low HBW.out ?_, ?_, ?_⟩
      · with_reducible exact Below.six1 hlow9 (Nat.le_refl _)
      · with_reducible exact BlkV.six1 zb
      · with_reducible exact BlkV.off1 zc (by omega)
  case rest =>
    obtain ⟨hbx, X0, X2⟩ := hcut
    clear HC1 v0 v1 v2 v3 v4 v5 v6 v7 v8 v9 v10 KF BB0 BB2 HBW hWs BB1 hne hlow
    obtain ⟨a0, a1, a2, a3, a4, a5, a6, a7, a8, a9, a10, a11⟩ := X0.twelve
    obtain ⟨y0, y1, y2, y3, y4, y5, y6, y7, y8, y9, y10, y11⟩ := X0.free12
    obtain ⟨c0, c1, c2, c3, c4, c5, c6, c7, c8, c9, c10, c11⟩ := X2.twelve
    obtain ⟨z0, z1, z2, z3, z4, z5, z6, z7, z8, z9, z10, z11⟩ := X2.free12
    have hlt := X0.lt
    have hlt2 := X2.lt
    clear X0 X2
    cases xh
    · have HF := Lib.hid (HD.out.trans (if_neg (by simp)))
      clear HD
      go_wp2_with fail
      refine bodyPost_ret (v := .agg #[.int .u32 xe, .int .u32 xm, .int .u32 xu, .int .i64 xw, .int .i64 xs, .bool false, .int .u32 en, .int .u32 en, .int .u32 sq, .int .i64 wn, .int .i64 sc, .bool true]) (by simp [results, Try.results36, go_sem, c0, c1, c2, c3, c4, c5, c6, c7, c8, c9, c10, c11]) rfl ⟨?_, by repeat (first | with_reducible exact hbx | with_reducible refine Below.setCell ?_ (by simp; try omega) _)⟩
      rw [HF.out]
      rfl
    by_cases h1 : sc < 0
    · have HF := Lib.hid (HD.out.trans (if_pos (by simp [h1])))
      clear HD
      go_wp2_with fail
      all_goals
        refine bodyPost_ret (v := .agg #[.int .u32 xe, .int .u32 xm, .int .u32 xu, .int .i64 xw, .int .i64 0, .bool true, .int .u32 en, .int .u32 en, .int .u32 sq, .int .i64 wn, .int .i64 0, .bool true]) (by simp [results, Try.results36, go_sem, c0, c1, c2, c3, c4, c5, c6, c7, c8, c9, c10, c11]) rfl ⟨?_, by repeat (first | with_reducible exact hbx | with_reducible refine Below.setCell ?_ (by simp; try omega) _)⟩
        rw [HF.out]
        rfl
    by_cases h2 : xs < 0
    · have HF := Lib.hid (HD.out.trans (if_pos (by simp [h2])))
      clear HD
      go_wp2_with fail
      all_goals
        refine bodyPost_ret (v := .agg #[.int .u32 xe, .int .u32 xm, .int .u32 xu, .int .i64 xw, .int .i64 0, .bool true, .int .u32 en, .int .u32 en, .int .u32 sq, .int .i64 wn, .int .i64 0, .bool true]) (by simp [results, Try.results36, go_sem, c0, c1, c2, c3, c4, c5, c6, c7, c8, c9, c10, c11]) rfl ⟨?_, by repeat (first | with_reducible exact hbx | with_reducible refine Below.setCell ?_ (by simp; try omega) _)⟩
        rw [HF.out]
        rfl
    have HF := Lib.hid (HD.out.trans (if_neg (by simp; omega)))
    clear HD
    go_wp2_with fail
    all_goals
      refine bodyPost_ret (v := .agg #[.int .u32 xe, .int .u32 xm, .int .u32 xu, .int .i64 xw, .int .i64 xs, .bool true, .int .u32 en, .int .u32 en, .int .u32 sq, .int .i64 wn, .int .i64 sc, .bool true]) (by simp [results, Try.results36, go_sem, c0, c1, c2, c3, c4, c5, c6, c7, c8, c9, c10, c11]) rfl ⟨?_, by repeat (first | with_reducible exact hbx | with_reducible refine Below.setCell ?_ (by simp; try omega) _)⟩
      rw [HF.out]
      rfl
end Go.Proofs.Ytliibpajgdncpaa
