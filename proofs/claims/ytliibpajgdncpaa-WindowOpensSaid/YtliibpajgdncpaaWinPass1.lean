/- The walk of window.Pass for side 1 (printed by tools/gen_winpass.py). -/
import Derived.Test.YtliibpajgdncpaaWinPassH
namespace Go.Proofs.Ytliibpajgdncpaa
open Go.RowKit
set_option linter.unusedVariables false
set_option maxRecDepth 8000 in
set_option maxHeartbeats 16000000 in
theorem win_pass1 (xe xm xu xw xs : Int) (xh : Bool) (ye ym yu yw ys : Int) (yh : Bool) (sp dp sq ak fl wi ur : Int) (Ao : Option Addr) (no co : Nat) (Ab : Option Addr) (nb cb : Nat) (l : List Tcp.Opt) (w : World) (hO : Tcp.OptsRd w Ao no l) (hn : no ≤ 9223372036854775807) (h300 : ∀ o ∈ l, o.n ≤ 300) (hnb : nb ≤ 4294967295) :
    Calls Try.prog 20 #[.agg (List.toArray [.int .u32 xe, .int .u32 xm, .int .u32 xu, .int .i64 xw, .int .i64 xs, .bool xh, .int .u32 ye, .int .u32 ym, .int .u32 yu, .int .i64 yw, .int .i64 ys, .bool yh]), .int .i64 1, .agg #[.int .i64 sp, .int .i64 dp, .int .u32 sq, .int .u32 ak, .int .i64 fl, .int .i64 wi, .int .i64 ur, .slice Ao no co, .slice Ab nb cb]] w (PassR (Win.pass (⟨ye, ym, yu, yw, ys, yh⟩ : Win.S) (⟨xe, xm, xu, xw, xs, xh⟩ : Win.S) sq ak wi (State.size nb fl) (Win.scale l) (State.has fl 2) (State.has fl 16)) true w) := by
  obtain ⟨W, hW⟩ : ∃ W, W = ((w.alloc (.cells (List.toArray [.int .u32 xe, .int .u32 xm, .int .u32 xu, .int .i64 xw, .int .i64 xs, .bool xh, .int .u32 ye, .int .u32 ym, .int .u32 yu, .int .i64 yw, .int .i64 ys, .bool yh]) 47)).alloc (.cells (List.toArray [.int .i64 sp, .int .i64 dp, .int .u32 sq, .int .u32 ak, .int .i64 fl, .int .i64 wi, .int .i64 ur, .slice Ao no co, .slice Ab nb cb]) 30)).alloc (.cells (List.toArray [.int .u32 0, .int .u32 0, .int .u32 0, .int .i64 0, .int .i64 0, .bool false, .int .u32 0, .int .u32 0, .int .u32 0, .int .i64 0, .int .i64 0, .bool false]) 47) := ⟨_, rfl⟩
  have hbW : Below w.heap.size w W := by rw [hW]; exact (((Below.refl _ _).alloc (Nat.le_refl _) _).alloc (by simp) _).alloc (by simp; omega) _
  have B0 : BlkV W w.heap.size 47 [.int .u32 xe, .int .u32 xm, .int .u32 xu, .int .i64 xw, .int .i64 xs, .bool xh, .int .u32 ye, .int .u32 ym, .int .u32 yu, .int .i64 yw, .int .i64 ys, .bool yh] := by rw [hW]; exact ((BlkV.new _ _ _).alloc _).alloc _
  have B1 : BlkV W (w.heap.size + 1) 30 [.int .i64 sp, .int .i64 dp, .int .u32 sq, .int .u32 ak, .int .i64 fl, .int .i64 wi, .int .i64 ur, .slice Ao no co, .slice Ab nb cb] := by rw [hW]; exact (BlkV.new_at _ _ _ (by simp)).alloc _
  have B2 : BlkV W (w.heap.size + 1 + 1) 47 [.int .u32 0, .int .u32 0, .int .u32 0, .int .i64 0, .int .i64 0, .bool false, .int .u32 0, .int .u32 0, .int .u32 0, .int .i64 0, .int .i64 0, .bool false] := by rw [hW]; exact BlkV.new_at _ _ _ (by simp)
  obtain ⟨a0, a1, a2, a3, a4, a5, a6, a7, a8, a9, a10, a11⟩ := B0.twelve
  have HR := win_right xe xm xu xw xs xh ye ym yu yw ys yh W
  obtain ⟨rt, hrt⟩ : ∃ rt, Win.right ⟨xe, xm, xu, xw, xs, xh⟩ ⟨ye, ym, yu, yw, ys, yh⟩ = rt := ⟨_, rfl⟩
  rw [hrt] at HR
  have hrt2 : Win.right (⟨ye, ym, yu, yw, ys, yh⟩ : Win.S) (⟨xe, xm, xu, xw, xs, xh⟩ : Win.S) = rt := by rw [← hrt]; exact Win.right_comm _ _
  have HRT := Lib.hid hrt2
  have HP0 : Hid ((rt = false ∨ wi < 0 ∨ 65535 < wi) → Win.pass (⟨ye, ym, yu, yw, ys, yh⟩ : Win.S) (⟨xe, xm, xu, xw, xs, xh⟩ : Win.S) sq ak wi (State.size nb fl) (Win.scale l) (State.has fl 2) (State.has fl 16) = (((⟨ye, ym, yu, yw, ys, yh⟩ : Win.S), (⟨xe, xm, xu, xw, xs, xh⟩ : Win.S)), 2)) := Lib.hid (by
    intro hh
    unfold Win.pass
    rw [hrt2, if_pos (by rcases hh with hh | hh | hh <;> simp [hh])])
  have HO := Lib.hid (hO.below hbW)
  have H3 := Lib.hid h300
  have HNB := Lib.hid hnb
  clear hrt hrt2 hO h300 hnb
  go_enter Try.func20, Try.ntmps20
  go_wp2_with fail
  rw [← hW]
  clear hW
  go_wp2_with fail
  refine HR.mono ?_
  rintro e w1 ⟨rfl, hb1⟩
  clear HR a0 a1 a2 a3 a4 a5 a6 a7 a8 a9 a10 a11
  have hbw := bel_then hbW hb1
  have C0 := B0.below hb1
  have C1 := B1.below hb1
  have C2 := B2.below hb1
  have HO1 := Lib.hid (HO.out.below hb1)
  clear B0 B1 B2 hbW hb1 HO
  obtain ⟨a0, a1, a2, a3, a4, a5, a6, a7, a8, a9, a10, a11⟩ := C0.twelve
  obtain ⟨t0, t1, t2, t3, t4, t5, t6, t7, t8⟩ := C1.nine
  obtain ⟨r0, r1, r2, r3, r4, r5, r6, r7, r8, r9, r10, r11⟩ := C2.twelve
  obtain ⟨z0, z1, z2, z3, z4, z5, z6, z7, z8, z9, z10, z11⟩ := C2.free12
  have hlt0 := C0.lt
  have hlt1 := C1.lt
  have hlt2 := C2.lt
  cases rt
  · clear C0 C1 C2 t0 t1 t2 t3 t4 t6 t7 t8
    go_wp2_with fail
    all_goals
      refine bodyPost_ret (v := .tuple #[.agg #[.int .u32 xe, .int .u32 xm, .int .u32 xu, .int .i64 xw, .int .i64 xs, .bool xh, .int .u32 ye, .int .u32 ym, .int .u32 yu, .int .i64 yw, .int .i64 ys, .bool yh], .int .i64 2]) (by simp [results, Try.results20, go_sem, r0, r1, r2, r3, r4, r5, r6, r7, r8, r9, r10, r11]) rfl (passR_mk1 (HP0.out (Or.inl (by trivial))) (by repeat (first | with_reducible exact hbw | with_reducible refine Below.setCell ?_ (by simp; try omega) _)))
  by_cases hwi : wi < 0
  · clear C0 C1 C2 t0 t1 t2 t3 t4 t6 t7 t8
    go_wp2_with fail
    all_goals
      refine bodyPost_ret (v := .tuple #[.agg #[.int .u32 xe, .int .u32 xm, .int .u32 xu, .int .i64 xw, .int .i64 xs, .bool xh, .int .u32 ye, .int .u32 ym, .int .u32 yu, .int .i64 yw, .int .i64 ys, .bool yh], .int .i64 2]) (by simp [results, Try.results20, go_sem, r0, r1, r2, r3, r4, r5, r6, r7, r8, r9, r10, r11]) rfl (passR_mk1 (HP0.out (Or.inr (Or.inl hwi))) (by repeat (first | with_reducible exact hbw | with_reducible refine Below.setCell ?_ (by simp; try omega) _)))
  by_cases hwj : 65535 < wi
  · clear C0 C1 C2 t0 t1 t2 t3 t4 t6 t7 t8
    go_wp2_with fail
    all_goals
      refine bodyPost_ret (v := .tuple #[.agg #[.int .u32 xe, .int .u32 xm, .int .u32 xu, .int .i64 xw, .int .i64 xs, .bool xh, .int .u32 ye, .int .u32 ym, .int .u32 yu, .int .i64 yw, .int .i64 ys, .bool yh], .int .i64 2]) (by simp [results, Try.results20, go_sem, r0, r1, r2, r3, r4, r5, r6, r7, r8, r9, r10, r11]) rfl (passR_mk1 (HP0.out (Or.inr (Or.inr hwj))) (by repeat (first | with_reducible exact hbw | with_reducible refine Below.setCell ?_ (by simp; try omega) _)))
  have hsx : ys ≤ 14 := by
    cases hh : yh
    · have hz : ys = 0 := congrArg Win.S.s (Win.right1_no (Win.right_parts HRT.out).1 hh)
      omega
    · exact (Win.right1_h (Win.right_parts HRT.out).1 hh).2.2.2
  have HC1 : Hid (∀ w' : World, Calls Try.prog 34 #[.agg #[.int .u32 ye, .int .u32 ym, .int .u32 yu, .int .i64 yw, .int .i64 ys, .bool yh], .agg #[.int .i64 sp, .int .i64 dp, .int .u32 sq, .int .u32 ak, .int .i64 fl, .int .i64 wi, .int .i64 ur, .slice Ao no co, .slice Ab nb cb]] w' fun e w'' => e = .returned (.agg (List.toArray ([.int .i64 sp, .int .i64 dp, .int .u32 sq, .int .u32 ak, .int .i64 fl, .int .i64 wi, .int .i64 ur, .slice Ao no co, .slice Ab nb cb] ++ [.int .u32 (Seq.step sq (State.size nb fl)), .int .i64 (Win.win ys wi (State.has fl 2))]))) ∧ Below w'.heap.size w' w'') := Lib.hid fun w' => win_read ye ym yu yw ys yh sp dp sq ak fl wi ur Ao no co Ab nb cb w' HNB.out (by omega) (by omega) hsx
  have hwn := Win.win_bd (s := ys) (syn := State.has fl 2) (wi := wi) (by omega) (by omega) hsx
  have HP1 : Hid (Win.pass (⟨ye, ym, yu, yw, ys, yh⟩ : Win.S) (⟨xe, xm, xu, xw, xs, xh⟩ : Win.S) sq ak wi (State.size nb fl) (Win.scale l) (State.has fl 2) (State.has fl 16) = Win.go (⟨ye, ym, yu, yw, ys, yh⟩ : Win.S) (⟨xe, xm, xu, xw, xs, xh⟩ : Win.S) ⟨sq, Seq.step sq (State.size nb fl), ak, Win.win ys wi (State.has fl 2), State.has fl 2, State.has fl 16⟩ (Win.scale l)) := Lib.hid (by
    unfold Win.pass
    rw [HRT.out, if_neg (by simp; omega)])
  obtain ⟨PP, hPP⟩ : ∃ PP, Win.pass (⟨ye, ym, yu, yw, ys, yh⟩ : Win.S) (⟨xe, xm, xu, xw, xs, xh⟩ : Win.S) sq ak wi (State.size nb fl) (Win.scale l) (State.has fl 2) (State.has fl 16) = PP := ⟨_, rfl⟩
  have HPP := Lib.hid hPP
  rw [hPP] at HP1 HP0
  generalize Seq.step sq (State.size nb fl) = en at HC1 HP1
  generalize Win.win ys wi (State.has fl 2) = wn at HC1 HP1 hwn
  have KF : Hid (∀ w' : World, Below w1.heap.size w1 w' → w'.cell? ⟨w.heap.size, 6, none⟩ = some (.int .u32 ye) ∧ w'.cell? ⟨w.heap.size, 7, none⟩ = some (.int .u32 ym) ∧ w'.cell? ⟨w.heap.size, 8, none⟩ = some (.int .u32 yu) ∧ w'.cell? ⟨w.heap.size, 9, none⟩ = some (.int .i64 yw) ∧ w'.cell? ⟨w.heap.size, 10, none⟩ = some (.int .i64 ys) ∧ w'.cell? ⟨w.heap.size, 11, none⟩ = some (.bool yh) ∧ w'.cell? ⟨w.heap.size + 1, 0, none⟩ = some (.int .i64 sp) ∧ w'.cell? ⟨w.heap.size + 1, 1, none⟩ = some (.int .i64 dp) ∧ w'.cell? ⟨w.heap.size + 1, 2, none⟩ = some (.int .u32 sq) ∧ w'.cell? ⟨w.heap.size + 1, 3, none⟩ = some (.int .u32 ak) ∧ w'.cell? ⟨w.heap.size + 1, 4, none⟩ = some (.int .i64 fl) ∧ w'.cell? ⟨w.heap.size + 1, 5, none⟩ = some (.int .i64 wi) ∧ w'.cell? ⟨w.heap.size + 1, 6, none⟩ = some (.int .i64 ur) ∧ w'.cell? ⟨w.heap.size + 1, 7, none⟩ = some (.slice Ao no co) ∧ w'.cell? ⟨w.heap.size + 1, 8, none⟩ = some (.slice Ab nb cb)) := Lib.hid fun w' hb => by
    obtain ⟨a0, a1, a2, a3, a4, a5, a6, a7, a8, a9, a10, a11⟩ := (C0.below hb).twelve
    obtain ⟨t0, t1, t2, t3, t4, t5, t6, t7, t8⟩ := (C1.below hb).nine
    exact ⟨a6, a7, a8, a9, a10, a11, t0, t1, t2, t3, t4, t5, t6, t7, t8⟩
  clear HP0 hPP r0 r1 r2 r3 r4 r5 r6 r7 r8 r9 r10 r11 z0 z1 z2 z3 z4 z5 z6 z7 z8 z9 z10 z11 hsx
  go_upto_region 3 with fail
  go_cut [8] (fun s8 wx => ∃ g : Nat, s8 = .pointer (some ⟨g, 0, none⟩) ∧ w1.heap.size ≤ g ∧ Below w1.heap.size w1 wx ∧ BlkV wx g 70 [.int .i64 sp, .int .i64 dp, .int .u32 sq, .int .u32 ak, .int .i64 fl, .int .i64 wi, .int .i64 ur, .slice Ao no co, .slice Ab nb cb, .int .u32 en, .int .i64 wn])
  case first =>
    go_region_held3 (fun w' => w'.cell? ⟨w.heap.size, 6, none⟩ = some (.int .u32 ye) ∧ w'.cell? ⟨w.heap.size, 7, none⟩ = some (.int .u32 ym) ∧ w'.cell? ⟨w.heap.size, 8, none⟩ = some (.int .u32 yu) ∧ w'.cell? ⟨w.heap.size, 9, none⟩ = some (.int .i64 yw) ∧ w'.cell? ⟨w.heap.size, 10, none⟩ = some (.int .i64 ys) ∧ w'.cell? ⟨w.heap.size, 11, none⟩ = some (.bool yh) ∧ w'.cell? ⟨w.heap.size + 1, 0, none⟩ = some (.int .i64 sp) ∧ w'.cell? ⟨w.heap.size + 1, 1, none⟩ = some (.int .i64 dp) ∧ w'.cell? ⟨w.heap.size + 1, 2, none⟩ = some (.int .u32 sq) ∧ w'.cell? ⟨w.heap.size + 1, 3, none⟩ = some (.int .u32 ak) ∧ w'.cell? ⟨w.heap.size + 1, 4, none⟩ = some (.int .i64 fl) ∧ w'.cell? ⟨w.heap.size + 1, 5, none⟩ = some (.int .i64 wi) ∧ w'.cell? ⟨w.heap.size + 1, 6, none⟩ = some (.int .i64 ur) ∧ w'.cell? ⟨w.heap.size + 1, 7, none⟩ = some (.slice Ao no co) ∧ w'.cell? ⟨w.heap.size + 1, 8, none⟩ = some (.slice Ab nb cb)) (exact KF.out _ (by repeat (first | with_reducible exact hbn | with_reducible exact Below.refl w1.heap.size w1 | with_reducible refine bel_grow ?_ _ | with_reducible refine Below.setCell ?_ (by simp) _ | with_reducible refine Below.drewN ?_ _ | with_reducible refine Below.drew ?_)))
      (with_reducible first | (refine (HC1.out _).mono ?_; rintro e w9 ⟨rfl, hb9⟩; have hbn : Below w1.heap.size w1 w9 := bel_then (by repeat (first | with_reducible exact hbn | with_reducible exact Below.refl w1.heap.size w1 | with_reducible refine bel_grow ?_ _ | with_reducible refine Below.setCell ?_ (by simp) _ | with_reducible refine Below.drewN ?_ _ | with_reducible refine Below.drew ?_)) hb9; try (have zb := (by first | exact BlkV.later_seg hb9 | exact BlkV.later_segd hb9); obtain ⟨y0, y1, y2, y3, y4, y5, y6, y7, y8, y9, y10⟩ := zb.free11; obtain ⟨v0, v1, v2, v3, v4, v5, v6, v7, v8, v9, v10⟩ := zb.eleven)))
    all_goals
      go_wp2_with fail
      go_meet
      exact ⟨_, rfl, by first | exact Nat.le_refl _ | exact hbn.size, (by repeat (first | with_reducible exact hbn | with_reducible exact Below.refl w1.heap.size w1 | with_reducible refine bel_grow ?_ _ | with_reducible refine Below.setCell ?_ (by simp) _ | with_reducible refine Below.drewN ?_ _ | with_reducible refine Below.drew ?_)), by first | with_reducible exact BlkV.put11 zb | exact BlkV.new _ _ [.int .i64 sp, .int .i64 dp, .int .u32 sq, .int .u32 ak, .int .i64 fl, .int .i64 wi, .int .i64 ur, .slice Ao no co, .slice Ab nb cb, .int .u32 en, .int .i64 wn]⟩
  case rest =>
    obtain ⟨g, rfl, hgW, hbx, BG⟩ := hcut
    have hbwx := bel_then hbw hbx
    have D0 := C0.below hbx
    have D1 := C1.below hbx
    have D2 := C2.below hbx
    have HO2 := Lib.hid (HO1.out.below hbx)
    have hgx := BG.lt
    have hsx := hbx.size
    clear HC1 KF C0 C1 C2 HO1 hbw hbx t0 t1 t2 t3 t4 t5 t6 t7 t8 a0 a1 a2 a3 a4 a5 a6 a7 a8 a9 a10 a11
    obtain ⟨a0, a1, a2, a3, a4, a5, a6, a7, a8, a9, a10, a11⟩ := D0.twelve
    obtain ⟨v0, v1, v2, v3, v4, v5, v6, v7, v8, v9, v10⟩ := BG.eleven
    have hn0 : ¬ wc.heap.size = w.heap.size := by omega
    have hn1 : ¬ wc.heap.size = w.heap.size + 1 := by omega
    have hn2 : ¬ wc.heap.size = w.heap.size + 1 + 1 := by omega
    have hng : ¬ wc.heap.size = g := by omega
    have hg2 : ¬ g = w.heap.size + 1 + 1 := by omega
    go_upto_block 0 with fail
    go_cut [9] (fun s9 wx => ∃ (go : Nat) (p q : Win.S), s9 = .pointer (some ⟨go, 0, none⟩) ∧ w.heap.size + 3 ≤ go ∧ ¬ go = g ∧ Below w.heap.size w wx ∧ BlkV wx (w.heap.size + 1 + 1) 47 [.int .u32 0, .int .u32 0, .int .u32 0, .int .i64 0, .int .i64 0, .bool false, .int .u32 0, .int .u32 0, .int .u32 0, .int .i64 0, .int .i64 0, .bool false] ∧ BlkV wx g 70 [.int .i64 sp, .int .i64 dp, .int .u32 sq, .int .u32 ak, .int .i64 fl, .int .i64 wi, .int .i64 ur, .slice Ao no co, .slice Ab nb cb, .int .u32 en, .int .i64 wn] ∧ BlkV wx go 47 (q.cells ++ p.cells) ∧ Hid (PP = (Win.after p q (⟨sq, en, ak, wn, State.has fl 2, State.has fl 16⟩ : Win.G), 0)))
    case first =>
      obtain ⟨WO, hWO⟩ : ∃ WO, WO = wc.alloc (.cells (List.toArray [.int .u32 xe, .int .u32 xm, .int .u32 xu, .int .i64 xw, .int .i64 xs, .bool xh, .int .u32 ye, .int .u32 ym, .int .u32 yu, .int .i64 yw, .int .i64 ys, .bool yh]) 47) := ⟨_, rfl⟩
      have hbo : Below wc.heap.size wc WO := by rw [hWO]; exact (Below.refl _ _).alloc (Nat.le_refl _) _
      have O0 := D0.below hbo
      have O2 := D2.below hbo
      have OG := BG.below hbo
      have OO : BlkV WO wc.heap.size 47 [.int .u32 xe, .int .u32 xm, .int .u32 xu, .int .i64 xw, .int .i64 xs, .bool xh, .int .u32 ye, .int .u32 ym, .int .u32 yu, .int .i64 yw, .int .i64 ys, .bool yh] := by rw [hWO]; exact BlkV.new _ _ _
      have hbwo := bel_then hbwx hbo
      have HO3 := Lib.hid (HO2.out.below hbo)
      rw [← hWO]
      clear hWO hbo D0 D1 D2 BG HO2 hbwx v0 v1 v2 v3 v4 v5 v6 v7 v8 v9 v10 a0 a1 a2 a3 a4 a5 a6 a7 a8 a9 a10 a11
      obtain ⟨a0, a1, a2, a3, a4, a5, a6, a7, a8, a9, a10, a11⟩ := O0.twelve
      obtain ⟨v0, v1, v2, v3, v4, v5, v6, v7, v8, v9, v10⟩ := OG.eleven
      cases yh
      · go_wp2_with fail
        refine (win_has sp dp sq ak fl wi ur en wn Ao no co Ab nb cb 2 _).mono ?_
        rintro e w3 ⟨rfl, hb3⟩
        have hbw3 := bel_then hbwo hb3
        have Q0 := O0.below hb3
        have Q2 := O2.below hb3
        have QG := OG.below hb3
        have QO := OO.below hb3
        have HO4 := HO3.out.below hb3
        clear O0 O2 OG OO HO3 hbwo hb3 v0 v1 v2 v3 v4 v5 v6 v7 v8 v9 v10 a0 a1 a2 a3 a4 a5 a6 a7 a8 a9 a10 a11
        obtain ⟨a0, a1, a2, a3, a4, a5, a6, a7, a8, a9, a10, a11⟩ := Q0.twelve
        obtain ⟨v0, v1, v2, v3, v4, v5, v6, v7, v8, v9, v10⟩ := QG.eleven
        obtain ⟨r0, r1, r2, r3, r4, r5, r6, r7, r8, r9, r10, r11⟩ := Q2.twelve
        obtain ⟨z0, z1, z2, z3, z4, z5, z6, z7, z8, z9, z10, z11⟩ := Q2.free12
        have hl0 := Q0.lt
        have hl2 := Q2.lt
        have hlg := QG.lt
        cases hsyn : State.has fl 2
        · have HP2 : PP = (((⟨ye, ym, yu, yw, ys, false⟩ : Win.S), (⟨xe, xm, xu, xw, xs, xh⟩ : Win.S)), 2) := by rw [HP1.out, hsyn]; rfl
          clear Q0 Q2 QG QO HO4 HP1
          go_wp2_with fail
          refine bodyPost_ret (v := .tuple #[.agg #[.int .u32 xe, .int .u32 xm, .int .u32 xu, .int .i64 xw, .int .i64 xs, .bool xh, .int .u32 ye, .int .u32 ym, .int .u32 yu, .int .i64 yw, .int .i64 ys, .bool false], .int .i64 2]) (by simp [results, Try.results20, go_sem, r0, r1, r2, r3, r4, r5, r6, r7, r8, r9, r10, r11]) rfl (passR_mk1 (HPP.out.trans HP2) (by repeat (first | with_reducible exact hbw3 | with_reducible refine Below.setCell ?_ (by simp; try omega) _ | with_reducible refine Below.drewN ?_ _ | with_reducible refine Below.drew ?_)))
        · obtain ⟨⟨⟨pe, pm, pu, pw, ps, ph⟩, ⟨qe, qm, qu, qw, qs, qh⟩⟩, hF⟩ : ∃ F : Win.S × Win.S, Win.first (⟨xe, xm, xu, xw, xs, xh⟩ : Win.S) ⟨sq, en, ak, wn, true, State.has fl 16⟩ (Win.scale l) = F := ⟨_, rfl⟩
          have HP2 : Hid (PP = (Win.after ⟨pe, pm, pu, pw, ps, ph⟩ ⟨qe, qm, qu, qw, qs, qh⟩ ⟨sq, en, ak, wn, true, State.has fl 16⟩, 0)) := Lib.hid (by
            rw [HP1.out, hsyn]
            unfold Win.go
            rw [if_pos rfl, if_neg (by simp), hF])
          have HF : Calls Try.prog 36 #[.agg (List.toArray [.int .u32 xe, .int .u32 xm, .int .u32 xu, .int .i64 xw, .int .i64 xs, .bool xh, .int .u32 ye, .int .u32 ym, .int .u32 yu, .int .i64 yw, .int .i64 ys, .bool false]), .int .i64 1, .agg (List.toArray [.int .i64 sp, .int .i64 dp, .int .u32 sq, .int .u32 ak, .int .i64 fl, .int .i64 wi, .int .i64 ur, .slice Ao no co, .slice Ab nb cb, .int .u32 en, .int .i64 wn])] w3 fun e w' => e = .returned (.agg #[.int .u32 qe, .int .u32 qm, .int .u32 qu, .int .i64 qw, .int .i64 qs, .bool qh, .int .u32 pe, .int .u32 pm, .int .u32 pu, .int .i64 pw, .int .i64 ps, .bool ph]) ∧ Below w3.heap.size w3 w' := by
            have := win_first1 xe xm xu xw xs xh ye ym yu yw ys false sp dp sq ak fl wi ur en wn Ao no co Ab nb cb l w3 HO4 hn H3.out
            rw [hsyn, hF] at this
            exact this
          have HS := Lib.hid hsyn
          clear HP1 hF HO4 hsyn
          go_wp2_with fail
          refine HF.mono ?_
          rintro e w4 ⟨rfl, hb4⟩
          have hbw4 := bel_then hbw3 hb4
          have R2 := Q2.below hb4
          have RG := QG.below hb4
          have RO := QO.below hb4
          clear Q0 Q2 QG QO HF hbw3 hb4 v0 v1 v2 v3 v4 v5 v6 v7 v8 v9 v10 a0 a1 a2 a3 a4 a5 a6 a7 a8 a9 a10 a11 r0 r1 r2 r3 r4 r5 r6 r7 r8 r9 r10 r11 z0 z1 z2 z3 z4 z5 z6 z7 z8 z9 z10 z11 hl0 hl2 hlg
          obtain ⟨r0, r1, r2, r3, r4, r5, r6, r7, r8, r9, r10, r11⟩ := RO.twelve
          obtain ⟨z0, z1, z2, z3, z4, z5, z6, z7, z8, z9, z10, z11⟩ := RO.free12
          have hlo := RO.lt
          go_wp2_with fail
          go_meet
          refine ⟨wc.heap.size, ⟨pe, pm, pu, pw, ps, ph⟩, ⟨qe, qm, qu, qw, qs, qh⟩, rfl, by omega, hng, Below.put12 hbw4 (by omega), BlkV.off12 R2 hn2, BlkV.off12 RG hng, BlkV.put12 RO, ?_⟩
          rw [HS.out]
          exact HP2
      · obtain ⟨k0, k1, k2, k3⟩ := Win.right1_h (Win.right_parts HRT.out).1 rfl
        cases xh
        · have HP2 : Hid (PP = (Win.after (⟨ye, ym, yu, yw, ys, true⟩ : Win.S) (⟨xe, xm, xu, xw, xs, false⟩ : Win.S) (⟨sq, en, ak, wn, State.has fl 2, State.has fl 16⟩ : Win.G), 0)) := Lib.hid (by rw [HP1.out]; rfl)
          clear HP1
          go_wp2_with fail
          go_meet
          exact ⟨wc.heap.size, (⟨ye, ym, yu, yw, ys, true⟩ : Win.S), (⟨xe, xm, xu, xw, xs, false⟩ : Win.S), rfl, by omega, hng, hbwo, O2, OG, OO, HP2⟩
        · obtain ⟨m0, m1, m2, m3⟩ := Win.right1_h (Win.right_parts HRT.out).2.1 rfl
          obtain ⟨v, hv⟩ : ∃ v, Win.wrong (⟨ye, ym, yu, yw, ys, true⟩ : Win.S) (⟨xe, xm, xu, xw, xs, true⟩ : Win.S) (⟨sq, en, ak, wn, State.has fl 2, State.has fl 16⟩ : Win.G) = v := ⟨_, rfl⟩
          have HW : Hid (∀ w' : World, Calls Try.prog 37 #[.agg #[.int .u32 ye, .int .u32 ym, .int .u32 yu, .int .i64 yw, .int .i64 ys, .bool true], .agg #[.int .u32 xe, .int .u32 xm, .int .u32 xu, .int .i64 xw, .int .i64 xs, .bool true], .agg #[.int .i64 sp, .int .i64 dp, .int .u32 sq, .int .u32 ak, .int .i64 fl, .int .i64 wi, .int .i64 ur, .slice Ao no co, .slice Ab nb cb, .int .u32 en, .int .i64 wn]] w' fun e w'' => e = .returned (.int .i64 v) ∧ Below w'.heap.size w' w'') := Lib.hid fun w' => by
            rw [← hv]
            exact win_wrong ye ym yu yw ys true xe xm xu xw xs true sp dp sq ak fl wi ur en wn Ao no co Ab nb cb w' k0 k1 m0 m1
          have HP2 : Hid (PP = (if (v != 0) = true then (((⟨ye, ym, yu, yw, ys, true⟩ : Win.S), (⟨xe, xm, xu, xw, xs, true⟩ : Win.S)), v) else (Win.after (⟨ye, ym, yu, yw, ys, true⟩ : Win.S) (⟨xe, xm, xu, xw, xs, true⟩ : Win.S) (⟨sq, en, ak, wn, State.has fl 2, State.has fl 16⟩ : Win.G), 0))) := Lib.hid (by
            rw [HP1.out, ← hv]
            rfl)
          have KF : Hid (∀ w' : World, Below WO.heap.size WO w' → w'.cell? ⟨w.heap.size, 0, none⟩ = some (.int .u32 xe) ∧ w'.cell? ⟨w.heap.size, 1, none⟩ = some (.int .u32 xm) ∧ w'.cell? ⟨w.heap.size, 2, none⟩ = some (.int .u32 xu) ∧ w'.cell? ⟨w.heap.size, 3, none⟩ = some (.int .i64 xw) ∧ w'.cell? ⟨w.heap.size, 4, none⟩ = some (.int .i64 xs) ∧ w'.cell? ⟨w.heap.size, 5, none⟩ = some (.bool true) ∧ w'.cell? ⟨w.heap.size, 6, none⟩ = some (.int .u32 ye) ∧ w'.cell? ⟨w.heap.size, 7, none⟩ = some (.int .u32 ym) ∧ w'.cell? ⟨w.heap.size, 8, none⟩ = some (.int .u32 yu) ∧ w'.cell? ⟨w.heap.size, 9, none⟩ = some (.int .i64 yw) ∧ w'.cell? ⟨w.heap.size, 10, none⟩ = some (.int .i64 ys) ∧ w'.cell? ⟨w.heap.size, 11, none⟩ = some (.bool true) ∧ w'.cell? ⟨g, 0, none⟩ = some (.int .i64 sp) ∧ w'.cell? ⟨g, 1, none⟩ = some (.int .i64 dp) ∧ w'.cell? ⟨g, 2, none⟩ = some (.int .u32 sq) ∧ w'.cell? ⟨g, 3, none⟩ = some (.int .u32 ak) ∧ w'.cell? ⟨g, 4, none⟩ = some (.int .i64 fl) ∧ w'.cell? ⟨g, 5, none⟩ = some (.int .i64 wi) ∧ w'.cell? ⟨g, 6, none⟩ = some (.int .i64 ur) ∧ w'.cell? ⟨g, 7, none⟩ = some (.slice Ao no co) ∧ w'.cell? ⟨g, 8, none⟩ = some (.slice Ab nb cb) ∧ w'.cell? ⟨g, 9, none⟩ = some (.int .u32 en) ∧ w'.cell? ⟨g, 10, none⟩ = some (.int .i64 wn)) := Lib.hid fun w' hb => by
            obtain ⟨a0, a1, a2, a3, a4, a5, a6, a7, a8, a9, a10, a11⟩ := (O0.below hb).twelve
            obtain ⟨v0, v1, v2, v3, v4, v5, v6, v7, v8, v9, v10⟩ := (OG.below hb).eleven
            exact ⟨a0, a1, a2, a3, a4, a5, a6, a7, a8, a9, a10, a11, v0, v1, v2, v3, v4, v5, v6, v7, v8, v9, v10⟩
          clear HP1 hv k0 k1 k2 k3 m0 m1 m2 m3
          go_upto_region 10 with fail
          have hwr : IntKind.i64.wrap (1 - 1) = 0 := by decide
          have hwr1 : IntKind.i64.wrap 1 = 1 := by decide
          have hwr0 : IntKind.i64.wrap 0 = 0 := by decide
          have hix : ∀ w', (Instr.indexAt 47 (.pointer (some ⟨w.heap.size, 0, none⟩)) (.int .i64 0)).run Try.prog w' = .ok (.pointer (some ⟨w.heap.size, 0, none⟩)) w' := fun w' => win_at w.heap.size 0 (by decide) w'
          go_region_held3 (fun w' => w'.cell? ⟨w.heap.size, 0, none⟩ = some (.int .u32 xe) ∧ w'.cell? ⟨w.heap.size, 1, none⟩ = some (.int .u32 xm) ∧ w'.cell? ⟨w.heap.size, 2, none⟩ = some (.int .u32 xu) ∧ w'.cell? ⟨w.heap.size, 3, none⟩ = some (.int .i64 xw) ∧ w'.cell? ⟨w.heap.size, 4, none⟩ = some (.int .i64 xs) ∧ w'.cell? ⟨w.heap.size, 5, none⟩ = some (.bool true) ∧ w'.cell? ⟨w.heap.size, 6, none⟩ = some (.int .u32 ye) ∧ w'.cell? ⟨w.heap.size, 7, none⟩ = some (.int .u32 ym) ∧ w'.cell? ⟨w.heap.size, 8, none⟩ = some (.int .u32 yu) ∧ w'.cell? ⟨w.heap.size, 9, none⟩ = some (.int .i64 yw) ∧ w'.cell? ⟨w.heap.size, 10, none⟩ = some (.int .i64 ys) ∧ w'.cell? ⟨w.heap.size, 11, none⟩ = some (.bool true) ∧ w'.cell? ⟨g, 0, none⟩ = some (.int .i64 sp) ∧ w'.cell? ⟨g, 1, none⟩ = some (.int .i64 dp) ∧ w'.cell? ⟨g, 2, none⟩ = some (.int .u32 sq) ∧ w'.cell? ⟨g, 3, none⟩ = some (.int .u32 ak) ∧ w'.cell? ⟨g, 4, none⟩ = some (.int .i64 fl) ∧ w'.cell? ⟨g, 5, none⟩ = some (.int .i64 wi) ∧ w'.cell? ⟨g, 6, none⟩ = some (.int .i64 ur) ∧ w'.cell? ⟨g, 7, none⟩ = some (.slice Ao no co) ∧ w'.cell? ⟨g, 8, none⟩ = some (.slice Ab nb cb) ∧ w'.cell? ⟨g, 9, none⟩ = some (.int .u32 en) ∧ w'.cell? ⟨g, 10, none⟩ = some (.int .i64 wn)) (exact KF.out _ (by repeat (first | with_reducible exact hbn | with_reducible exact Below.refl WO.heap.size WO | with_reducible refine Below.drewN ?_ _ | with_reducible refine Below.drew ?_)))
            (with_reducible first | (refine (HW.out _).mono ?_; rintro e w9 ⟨rfl, hb9⟩; have hbn : Below WO.heap.size WO w9 := bel_then (by repeat (first | with_reducible exact hbn | with_reducible exact Below.refl WO.heap.size WO | with_reducible refine Below.drewN ?_ _ | with_reducible refine Below.drew ?_)) hb9))
          all_goals
            have hbz : Below WO.heap.size WO w9 := hbn
            have hbw9 := bel_then hbwo hbz
            have Y2 := O2.below hbz
            have Y0 := O0.below hbz
            obtain ⟨r0, r1, r2, r3, r4, r5, r6, r7, r8, r9, r10, r11⟩ := Y2.twelve
            obtain ⟨z0, z1, z2, z3, z4, z5, z6, z7, z8, z9, z10, z11⟩ := Y2.free12
            obtain ⟨c0, c1, c2, c3, c4, c5, c6, c7, c8, c9, c10, c11⟩ := Y0.twelve
            have hl2 := Y2.lt
            have hl0 := Y0.lt
            cases hvz : (v != 0)
            · have HP3 : Hid (PP = (Win.after (⟨ye, ym, yu, yw, ys, true⟩ : Win.S) (⟨xe, xm, xu, xw, xs, true⟩ : Win.S) (⟨sq, en, ak, wn, State.has fl 2, State.has fl 16⟩ : Win.G), 0)) := Lib.hid (by rw [HP2.out, hvz]; rfl)
              clear HP2
              go_wp2_with fail
              go_meet
              exact ⟨wc.heap.size, (⟨ye, ym, yu, yw, ys, true⟩ : Win.S), (⟨xe, xm, xu, xw, xs, true⟩ : Win.S), rfl, by omega, hng, hbw9, Y2, OG.below hbz, OO.below hbz, HP3⟩
            · have HP3 : PP = (((⟨ye, ym, yu, yw, ys, true⟩ : Win.S), (⟨xe, xm, xu, xw, xs, true⟩ : Win.S)), v) := by rw [HP2.out, hvz]; rfl
              clear HP2
              go_wp2_with fail
              refine bodyPost_ret (v := .tuple #[.agg #[.int .u32 xe, .int .u32 xm, .int .u32 xu, .int .i64 xw, .int .i64 xs, .bool true, .int .u32 ye, .int .u32 ym, .int .u32 yu, .int .i64 yw, .int .i64 ys, .bool true], .int .i64 v]) (by simp [results, Try.results20, go_sem, r0, r1, r2, r3, r4, r5, r6, r7, r8, r9, r10, r11]) rfl (passR_mk1 (HPP.out.trans HP3) (by repeat (first | with_reducible exact hbw9 | with_reducible refine Below.setCell ?_ (by simp; try omega) _ | with_reducible refine Below.drewN ?_ _ | with_reducible refine Below.drew ?_)))
    case rest =>
      obtain ⟨go, ⟨pe, pm, pu, pw, ps, ph⟩, ⟨qe, qm, qu, qw, qs, qh⟩, rfl, hgo, hgog, hbx, X2, XG, XO, HP⟩ := hcut
      clear D0 D1 D2 BG HO2 hbwx v0 v1 v2 v3 v4 v5 v6 v7 v8 v9 v10 a0 a1 a2 a3 a4 a5 a6 a7 a8 a9 a10 a11 HP1 H3 HRT hn0 hn1 hn2 hng hgx hsx
      have hix0 : ∀ w', (Instr.indexAt 47 (.pointer (some ⟨go, 0, none⟩)) (.int .i64 0)).run Try.prog w' = .ok (.pointer (some ⟨go, 0, none⟩)) w' := fun w' => win_at go 0 (by decide) w'
      have hix1 : ∀ w', (Instr.indexAt 47 (.pointer (some ⟨go, 0, none⟩)) (.int .i64 1)).run Try.prog w' = .ok (.pointer (some ⟨go, 6, none⟩)) w' := fun w' => win_at go 1 (by decide) w'
      have hwr1 : IntKind.i64.wrap 1 = 1 := by decide
      have hwr0 : IntKind.i64.wrap 0 = 0 := by decide
      go_upto_region 13 with fail
      go_quiet (fail)
      clear hix0 hix1 hwr1 hwr0
      go_upto_region 14 with fail
      go_cut [] (fun wx => Below w.heap.size w wx ∧ BlkV wx (w.heap.size + 1 + 1) 47 [.int .u32 0, .int .u32 0, .int .u32 0, .int .i64 0, .int .i64 0, .bool false, .int .u32 0, .int .u32 0, .int .u32 0, .int .i64 0, .int .i64 0, .bool false] ∧ BlkV wx g 70 [.int .i64 sp, .int .i64 dp, .int .u32 sq, .int .u32 ak, .int .i64 fl, .int .i64 wi, .int .i64 ur, .slice Ao no co, .slice Ab nb cb, .int .u32 en, .int .i64 wn] ∧ BlkV wx go 47 [.int .u32 qe, .int .u32 (qm), .int .u32 (qu), .int .i64 qw, .int .i64 qs, .bool qh, .int .u32 (Seq.later pe en), .int .u32 pm, .int .u32 pu, .int .i64 (pw), .int .i64 ps, .bool ph])
      case first =>
        have HL : Hid (∀ w', Calls Try.prog 38 #[.int .u32 pe, .int .u32 en] w' fun e w'' => e = .returned (.int .u32 (Seq.later pe en)) ∧ w' = w'') := Lib.hid fun w' => seq_later pe en w'
        have HST := HL
        obtain ⟨a0, a1, a2, a3, a4, a5, a6, a7, a8, a9, a10, a11⟩ := XO.twelve
        obtain ⟨z0, z1, z2, z3, z4, z5, z6, z7, z8, z9, z10, z11⟩ := XO.free12
        obtain ⟨v0, v1, v2, v3, v4, v5, v6, v7, v8, v9, v10⟩ := XG.eleven
        have hlo := XO.lt
        have hlg := XG.lt
        go_region_with (first | (go_at_call 38; refine (HL.out _).mono ?_; rintro e w9 ⟨rfl, rfl⟩))
        all_goals
          go_wp2_with fail
          go_meet
          exact ⟨by repeat (first | with_reducible exact hbx | with_reducible refine bel_drewN ?_ _ | with_reducible refine Below.drew ?_ | with_reducible refine Below.setCell ?_ (by simp; omega) _), by repeat (first | with_reducible exact X2 | with_reducible refine BlkV.drewN ?_ _ | with_reducible refine BlkV.drew ?_ | with_reducible refine BlkV.other ?_ (by simp; omega) _), by repeat (first | with_reducible exact XG | with_reducible refine BlkV.drewN ?_ _ | with_reducible refine BlkV.drew ?_ | with_reducible refine BlkV.other ?_ (by simp; omega) _), BlkV.put_at (BlkV.drewN XO _) 6 _ rfl⟩
      case rest =>
      clear hbx X2 XG XO
      obtain ⟨hbx, X2, XG, XO⟩ := hcut
      go_upto_region 15 with fail
      go_cut [] (fun wx => Below w.heap.size w wx ∧ BlkV wx (w.heap.size + 1 + 1) 47 [.int .u32 0, .int .u32 0, .int .u32 0, .int .i64 0, .int .i64 0, .bool false, .int .u32 0, .int .u32 0, .int .u32 0, .int .i64 0, .int .i64 0, .bool false] ∧ BlkV wx g 70 [.int .i64 sp, .int .i64 dp, .int .u32 sq, .int .u32 ak, .int .i64 fl, .int .i64 wi, .int .i64 ur, .slice Ao no co, .slice Ab nb cb, .int .u32 en, .int .i64 wn] ∧ BlkV wx go 47 [.int .u32 qe, .int .u32 (qm), .int .u32 (qu), .int .i64 qw, .int .i64 qs, .bool qh, .int .u32 (Seq.later pe en), .int .u32 pm, .int .u32 pu, .int .i64 (max pw wn), .int .i64 ps, .bool ph])
      case first =>
        obtain ⟨a0, a1, a2, a3, a4, a5, a6, a7, a8, a9, a10, a11⟩ := XO.twelve
        obtain ⟨z0, z1, z2, z3, z4, z5, z6, z7, z8, z9, z10, z11⟩ := XO.free12
        obtain ⟨v0, v1, v2, v3, v4, v5, v6, v7, v8, v9, v10⟩ := XG.eleven
        have hlo := XO.lt
        have hlg := XG.lt
        by_cases hm : pw < wn
        · have hmx : max pw wn = wn := by omega
          go_region
          all_goals
            go_wp2_with fail
            go_meet
            exact ⟨by repeat (first | with_reducible exact hbx | with_reducible refine bel_drewN ?_ _ | with_reducible refine Below.drew ?_ | with_reducible refine Below.setCell ?_ (by simp; omega) _), by repeat (first | with_reducible exact X2 | with_reducible refine BlkV.drewN ?_ _ | with_reducible refine BlkV.drew ?_ | with_reducible refine BlkV.other ?_ (by simp; omega) _), by repeat (first | with_reducible exact XG | with_reducible refine BlkV.drewN ?_ _ | with_reducible refine BlkV.drew ?_ | with_reducible refine BlkV.other ?_ (by simp; omega) _), BlkV.put_at (by repeat (first | with_reducible exact XO | with_reducible refine BlkV.drewN ?_ _ | with_reducible refine BlkV.drew ?_)) 9 _ (by rw [hmx]; rfl)⟩
        · have hmx : max pw wn = pw := by omega
          go_region
          all_goals
            go_wp2_with fail
            go_meet
            exact ⟨by repeat (first | with_reducible exact hbx | with_reducible refine bel_drewN ?_ _ | with_reducible refine Below.drew ?_ | with_reducible refine Below.setCell ?_ (by simp; omega) _), by repeat (first | with_reducible exact X2 | with_reducible refine BlkV.drewN ?_ _ | with_reducible refine BlkV.drew ?_ | with_reducible refine BlkV.other ?_ (by simp; omega) _), by repeat (first | with_reducible exact XG | with_reducible refine BlkV.drewN ?_ _ | with_reducible refine BlkV.drew ?_ | with_reducible refine BlkV.other ?_ (by simp; omega) _), BlkV.put_at (by repeat (first | with_reducible exact XO | with_reducible refine BlkV.drewN ?_ _ | with_reducible refine BlkV.drew ?_)) 9 _ (by rw [hmx]; rfl)⟩
      case rest =>
      clear hbx X2 XG XO
      obtain ⟨hbx, X2, XG, XO⟩ := hcut
      obtain ⟨a0, a1, a2, a3, a4, a5, a6, a7, a8, a9, a10, a11⟩ := XO.twelve
      obtain ⟨z0, z1, z2, z3, z4, z5, z6, z7, z8, z9, z10, z11⟩ := XO.free12
      obtain ⟨v0, v1, v2, v3, v4, v5, v6, v7, v8, v9, v10⟩ := XG.eleven
      have hlo := XO.lt
      have hlg := XG.lt
      go_wp2_with fail
      refine (win_has sp dp sq ak fl wi ur en wn Ao no co Ab nb cb 16 _).mono ?_
      rintro e w3 ⟨rfl, hb3⟩
      have hb3' := bel_then hbx hb3
      have X2' := X2.below hb3
      have XG' := XG.below hb3
      have XO' := XO.below hb3
      clear a0 a1 a2 a3 a4 a5 a6 a7 a8 a9 a10 a11 z0 z1 z2 z3 z4 z5 z6 z7 z8 z9 z10 z11 v0 v1 v2 v3 v4 v5 v6 v7 v8 v9 v10 hlo hlg
      clear hbx X2 XG XO hb3
      have hbx := hb3'
      have X2 := X2'
      have XG := XG'
      have XO := XO'
      clear hb3' X2' XG' XO'
      cases hack : State.has fl 16
      · have HQ : Hid (Win.after ⟨pe, pm, pu, pw, ps, ph⟩ ⟨qe, qm, qu, qw, qs, qh⟩ ⟨sq, en, ak, wn, State.has fl 2, State.has fl 16⟩ = (⟨Seq.later pe en, pm, pu, max pw wn, ps, ph⟩, ⟨qe, qm, qu, qw, qs, qh⟩)) := Lib.hid (by rw [hack]; rfl)
        obtain ⟨a0, a1, a2, a3, a4, a5, a6, a7, a8, a9, a10, a11⟩ := XO.twelve
        obtain ⟨z0, z1, z2, z3, z4, z5, z6, z7, z8, z9, z10, z11⟩ := XO.free12
        obtain ⟨v0, v1, v2, v3, v4, v5, v6, v7, v8, v9, v10⟩ := XG.eleven
        have hlo := XO.lt
        have hlg := XG.lt
        obtain ⟨r0, r1, r2, r3, r4, r5, r6, r7, r8, r9, r10, r11⟩ := X2.twelve
        obtain ⟨y0, y1, y2, y3, y4, y5, y6, y7, y8, y9, y10, y11⟩ := X2.free12
        have hl2 := X2.lt
        have hbF := hbx
        clear X2 XG XO hbx hack
        go_wp2_with fail
        refine bodyPost_ret (v := .tuple #[.agg #[.int .u32 qe, .int .u32 (qm), .int .u32 (qu), .int .i64 qw, .int .i64 qs, .bool qh, .int .u32 (Seq.later pe en), .int .u32 pm, .int .u32 pu, .int .i64 (max pw wn), .int .i64 ps, .bool ph], .int .i64 0]) (by simp [results, Try.results20, go_sem, r0, r1, r2, r3, r4, r5, r6, r7, r8, r9, r10, r11]) rfl (passR_mk1 (HPP.out.trans (HP.out.trans (congrArg (fun x => (x, (0 : Int))) HQ.out))) (by repeat (first | with_reducible exact hbF | with_reducible refine Below.setCell ?_ (by simp; try omega) _ | with_reducible refine bel_drewN ?_ _ | with_reducible refine Below.drew ?_)))
      cases qh
      · have HQ : Hid (Win.after ⟨pe, pm, pu, pw, ps, ph⟩ ⟨qe, qm, qu, qw, qs, false⟩ ⟨sq, en, ak, wn, State.has fl 2, State.has fl 16⟩ = (⟨Seq.later pe en, pm, pu, max pw wn, ps, ph⟩, ⟨qe, qm, qu, qw, qs, false⟩)) := Lib.hid (by rw [hack]; rfl)
        obtain ⟨a0, a1, a2, a3, a4, a5, a6, a7, a8, a9, a10, a11⟩ := XO.twelve
        obtain ⟨z0, z1, z2, z3, z4, z5, z6, z7, z8, z9, z10, z11⟩ := XO.free12
        obtain ⟨v0, v1, v2, v3, v4, v5, v6, v7, v8, v9, v10⟩ := XG.eleven
        have hlo := XO.lt
        have hlg := XG.lt
        obtain ⟨r0, r1, r2, r3, r4, r5, r6, r7, r8, r9, r10, r11⟩ := X2.twelve
        obtain ⟨y0, y1, y2, y3, y4, y5, y6, y7, y8, y9, y10, y11⟩ := X2.free12
        have hl2 := X2.lt
        have hbF := hbx
        clear X2 XG XO hbx hack
        go_wp2_with fail
        refine bodyPost_ret (v := .tuple #[.agg #[.int .u32 qe, .int .u32 (qm), .int .u32 (qu), .int .i64 qw, .int .i64 qs, .bool false, .int .u32 (Seq.later pe en), .int .u32 pm, .int .u32 pu, .int .i64 (max pw wn), .int .i64 ps, .bool ph], .int .i64 0]) (by simp [results, Try.results20, go_sem, r0, r1, r2, r3, r4, r5, r6, r7, r8, r9, r10, r11]) rfl (passR_mk1 (HPP.out.trans (HP.out.trans (congrArg (fun x => (x, (0 : Int))) HQ.out))) (by repeat (first | with_reducible exact hbF | with_reducible refine Below.setCell ?_ (by simp; try omega) _ | with_reducible refine bel_drewN ?_ _ | with_reducible refine Below.drew ?_)))
      have HQ : Hid (Win.after ⟨pe, pm, pu, pw, ps, ph⟩ ⟨qe, qm, qu, qw, qs, true⟩ ⟨sq, en, ak, wn, State.has fl 2, State.has fl 16⟩ = (⟨Seq.later pe en, pm, pu, max pw wn, ps, ph⟩, ⟨qe, Seq.later qm (Seq.step ak wn), Seq.later qu ak, qw, qs, true⟩)) := Lib.hid (by rw [hack]; rfl)
      clear hack
      obtain ⟨a0, a1, a2, a3, a4, a5, a6, a7, a8, a9, a10, a11⟩ := XO.twelve
      obtain ⟨z0, z1, z2, z3, z4, z5, z6, z7, z8, z9, z10, z11⟩ := XO.free12
      obtain ⟨v0, v1, v2, v3, v4, v5, v6, v7, v8, v9, v10⟩ := XG.eleven
      have hlo := XO.lt
      have hlg := XG.lt
      go_upto_region 17 with fail
      clear a0 a1 a2 a3 a4 a5 a6 a7 a8 a9 a10 a11 z0 z1 z2 z3 z4 z5 z6 z7 z8 z9 z10 z11 v0 v1 v2 v3 v4 v5 v6 v7 v8 v9 v10 hlo hlg
      go_cut [] (fun wx => Below w.heap.size w wx ∧ BlkV wx (w.heap.size + 1 + 1) 47 [.int .u32 0, .int .u32 0, .int .u32 0, .int .i64 0, .int .i64 0, .bool false, .int .u32 0, .int .u32 0, .int .u32 0, .int .i64 0, .int .i64 0, .bool false] ∧ BlkV wx g 70 [.int .i64 sp, .int .i64 dp, .int .u32 sq, .int .u32 ak, .int .i64 fl, .int .i64 wi, .int .i64 ur, .slice Ao no co, .slice Ab nb cb, .int .u32 en, .int .i64 wn] ∧ BlkV wx go 47 [.int .u32 qe, .int .u32 (Seq.later qm (Seq.step ak wn)), .int .u32 (qu), .int .i64 qw, .int .i64 qs, .bool true, .int .u32 (Seq.later pe en), .int .u32 pm, .int .u32 pu, .int .i64 (max pw wn), .int .i64 ps, .bool ph])
      case first =>
        have HL : Hid (∀ w', Calls Try.prog 38 #[.int .u32 qm, .int .u32 (Seq.step ak wn)] w' fun e w'' => e = .returned (.int .u32 (Seq.later qm (Seq.step ak wn))) ∧ w' = w'') := Lib.hid fun w' => seq_later _ _ w'
        have HST : Hid (∀ w', Calls Try.prog 22 #[.int .u32 ak, .int .i64 wn] w' fun e w'' => e = .returned (.int .u32 (Seq.step ak wn)) ∧ w' = w'') := Lib.hid fun w' => seq_step _ _ w'
        obtain ⟨a0, a1, a2, a3, a4, a5, a6, a7, a8, a9, a10, a11⟩ := XO.twelve
        obtain ⟨z0, z1, z2, z3, z4, z5, z6, z7, z8, z9, z10, z11⟩ := XO.free12
        obtain ⟨v0, v1, v2, v3, v4, v5, v6, v7, v8, v9, v10⟩ := XG.eleven
        have hlo := XO.lt
        have hlg := XG.lt
        go_region_with (first | (go_at_call 38; refine (HL.out _).mono ?_; rintro e w9 ⟨rfl, rfl⟩) | (go_at_call 22; refine (HST.out _).mono ?_; rintro e w9 ⟨rfl, rfl⟩))
        all_goals
          go_wp2_with fail
          go_meet
          exact ⟨by repeat (first | with_reducible exact hbx | with_reducible refine bel_drewN ?_ _ | with_reducible refine Below.drew ?_ | with_reducible refine Below.setCell ?_ (by simp; omega) _), by repeat (first | with_reducible exact X2 | with_reducible refine BlkV.drewN ?_ _ | with_reducible refine BlkV.drew ?_ | with_reducible refine BlkV.other ?_ (by simp; omega) _), by repeat (first | with_reducible exact XG | with_reducible refine BlkV.drewN ?_ _ | with_reducible refine BlkV.drew ?_ | with_reducible refine BlkV.other ?_ (by simp; omega) _), BlkV.put_at (by repeat (first | with_reducible exact XO | with_reducible refine BlkV.drewN ?_ _ | with_reducible refine BlkV.drew ?_)) 1 _ rfl⟩
      case rest =>
      clear hbx X2 XG XO
      obtain ⟨hbx, X2, XG, XO⟩ := hcut
      go_upto_region 18 with fail
      go_cut [] (fun wx => Below w.heap.size w wx ∧ BlkV wx (w.heap.size + 1 + 1) 47 [.int .u32 0, .int .u32 0, .int .u32 0, .int .i64 0, .int .i64 0, .bool false, .int .u32 0, .int .u32 0, .int .u32 0, .int .i64 0, .int .i64 0, .bool false] ∧ BlkV wx g 70 [.int .i64 sp, .int .i64 dp, .int .u32 sq, .int .u32 ak, .int .i64 fl, .int .i64 wi, .int .i64 ur, .slice Ao no co, .slice Ab nb cb, .int .u32 en, .int .i64 wn] ∧ BlkV wx go 47 [.int .u32 qe, .int .u32 (Seq.later qm (Seq.step ak wn)), .int .u32 (Seq.later qu ak), .int .i64 qw, .int .i64 qs, .bool true, .int .u32 (Seq.later pe en), .int .u32 pm, .int .u32 pu, .int .i64 (max pw wn), .int .i64 ps, .bool ph])
      case first =>
        have HL : Hid (∀ w', Calls Try.prog 38 #[.int .u32 qu, .int .u32 ak] w' fun e w'' => e = .returned (.int .u32 (Seq.later qu ak)) ∧ w' = w'') := Lib.hid fun w' => seq_later _ _ w'
        have HST := HL
        obtain ⟨a0, a1, a2, a3, a4, a5, a6, a7, a8, a9, a10, a11⟩ := XO.twelve
        obtain ⟨z0, z1, z2, z3, z4, z5, z6, z7, z8, z9, z10, z11⟩ := XO.free12
        obtain ⟨v0, v1, v2, v3, v4, v5, v6, v7, v8, v9, v10⟩ := XG.eleven
        have hlo := XO.lt
        have hlg := XG.lt
        go_region_with (first | (go_at_call 38; refine (HL.out _).mono ?_; rintro e w9 ⟨rfl, rfl⟩))
        all_goals
          go_wp2_with fail
          go_meet
          exact ⟨by repeat (first | with_reducible exact hbx | with_reducible refine bel_drewN ?_ _ | with_reducible refine Below.drew ?_ | with_reducible refine Below.setCell ?_ (by simp; omega) _), by repeat (first | with_reducible exact X2 | with_reducible refine BlkV.drewN ?_ _ | with_reducible refine BlkV.drew ?_ | with_reducible refine BlkV.other ?_ (by simp; omega) _), by repeat (first | with_reducible exact XG | with_reducible refine BlkV.drewN ?_ _ | with_reducible refine BlkV.drew ?_ | with_reducible refine BlkV.other ?_ (by simp; omega) _), BlkV.put_at (by repeat (first | with_reducible exact XO | with_reducible refine BlkV.drewN ?_ _ | with_reducible refine BlkV.drew ?_)) 2 _ rfl⟩
      case rest =>
      clear hbx X2 XG XO
      obtain ⟨hbx, X2, XG, XO⟩ := hcut
      obtain ⟨a0, a1, a2, a3, a4, a5, a6, a7, a8, a9, a10, a11⟩ := XO.twelve
      obtain ⟨z0, z1, z2, z3, z4, z5, z6, z7, z8, z9, z10, z11⟩ := XO.free12
      obtain ⟨v0, v1, v2, v3, v4, v5, v6, v7, v8, v9, v10⟩ := XG.eleven
      have hlo := XO.lt
      have hlg := XG.lt
      obtain ⟨r0, r1, r2, r3, r4, r5, r6, r7, r8, r9, r10, r11⟩ := X2.twelve
      obtain ⟨y0, y1, y2, y3, y4, y5, y6, y7, y8, y9, y10, y11⟩ := X2.free12
      have hl2 := X2.lt
      have hbF := hbx
      clear X2 XG XO hbx
      go_wp2_with fail
      refine bodyPost_ret (v := .tuple #[.agg #[.int .u32 qe, .int .u32 (Seq.later qm (Seq.step ak wn)), .int .u32 (Seq.later qu ak), .int .i64 qw, .int .i64 qs, .bool true, .int .u32 (Seq.later pe en), .int .u32 pm, .int .u32 pu, .int .i64 (max pw wn), .int .i64 ps, .bool ph], .int .i64 0]) (by simp [results, Try.results20, go_sem, r0, r1, r2, r3, r4, r5, r6, r7, r8, r9, r10, r11]) rfl (passR_mk1 (HPP.out.trans (HP.out.trans (congrArg (fun x => (x, (0 : Int))) HQ.out))) (by repeat (first | with_reducible exact hbF | with_reducible refine Below.setCell ?_ (by simp; try omega) _ | with_reducible refine bel_drewN ?_ _ | with_reducible refine Below.drew ?_)))
end Go.Proofs.Ytliibpajgdncpaa
