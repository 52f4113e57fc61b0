/- The walk of WindowTwice for side 1 (printed by tools/gen_winlaw.py). -/
import Derived.Test.YtliibpajgdncpaaWinAwake
import Derived.Test.YtliibpajgdncpaaWinShort
import Derived.Test.YtliibpajgdncpaaWinEq
import Derived.Test.YtliibpajgdncpaaWinPlain2
namespace Go.Proofs.Ytliibpajgdncpaa
open Go.RowKit
set_option linter.unusedVariables false
set_option maxRecDepth 8000 in
set_option maxHeartbeats 16000000 in
theorem win_twice1 (xe xm xu xw xs : Int) (xh : Bool) (ye ym yu yw ys : Int) (yh : Bool) (sd : Int) (sp dp sq ak fl wi ur : Int) (Ao : Option Addr) (no co : Nat) (Ab : Option Addr) (nb cb : Nat) (l : List Tcp.Opt) (body : List Int) (w : World)
    (ht : Tcp.T.ok w ⟨sp, dp, sq, ak, fl, wi, ur, Ao, no, co, Ab, nb, cb, l, body⟩) (hsd0 : 0 ≤ sd) (hsd1 : sd ≤ 255) (hk : sd % 2 = 1) :
    Calls Try.prog 9 #[.agg (List.toArray [.int .u32 xe, .int .u32 xm, .int .u32 xu, .int .i64 xw, .int .i64 xs, .bool xh, .int .u32 ye, .int .u32 ym, .int .u32 yu, .int .i64 yw, .int .i64 ys, .bool yh]), .int .u8 sd, .agg #[.int .i64 sp, .int .i64 dp, .int .u32 sq, .int .u32 ak, .int .i64 fl, .int .i64 wi, .int .i64 ur, .slice Ao no co, .slice Ab nb cb]] w fun e w' => e = .returned (.bool true) ∧ Below w.heap.size w w' := by
  obtain ⟨W, hW⟩ : ∃ W, W = (w.alloc (.cells (List.toArray [.int .u32 xe, .int .u32 xm, .int .u32 xu, .int .i64 xw, .int .i64 xs, .bool xh, .int .u32 ye, .int .u32 ym, .int .u32 yu, .int .i64 yw, .int .i64 ys, .bool yh]) 47)).alloc (.cells (List.toArray [.int .i64 sp, .int .i64 dp, .int .u32 sq, .int .u32 ak, .int .i64 fl, .int .i64 wi, .int .i64 ur, .slice Ao no co, .slice Ab nb cb]) 30) := ⟨_, rfl⟩
  have hbW : Below w.heap.size w W := by rw [hW]; exact ((Below.refl _ _).alloc (Nat.le_refl _) _).alloc (by simp) _
  have B0 : BlkV W w.heap.size 47 [.int .u32 xe, .int .u32 xm, .int .u32 xu, .int .i64 xw, .int .i64 xs, .bool xh, .int .u32 ye, .int .u32 ym, .int .u32 yu, .int .i64 yw, .int .i64 ys, .bool yh] := by rw [hW]; exact (BlkV.new _ _ _).alloc _
  have B1 : BlkV W (w.heap.size + 1) 30 [.int .i64 sp, .int .i64 dp, .int .u32 sq, .int .u32 ak, .int .i64 fl, .int .i64 wi, .int .i64 ur, .slice Ao no co, .slice Ab nb cb] := by rw [hW]; exact BlkV.new_at _ _ _ (by simp)
  have HT := Lib.hid (ht.below hbW)
  have HA := win_awake W
  have hix0 : ∀ w', (Instr.indexAt 47 (.pointer (some ⟨w.heap.size, 0, none⟩)) (.int .i64 0)).run Try.prog w' = .ok (.pointer (some ⟨w.heap.size, 0, none⟩)) w' := fun w' => win_at w.heap.size 0 (by decide) w'
  have hix1 : ∀ w', (Instr.indexAt 47 (.pointer (some ⟨w.heap.size, 0, none⟩)) (.int .i64 1)).run Try.prog w' = .ok (.pointer (some ⟨w.heap.size, 6, none⟩)) w' := fun w' => win_at w.heap.size 1 (by decide) w'
  have hwr1 : IntKind.i64.wrap 1 = 1 := by decide
  have hwr0 : IntKind.i64.wrap 0 = 0 := by decide
  clear ht
  go_enter Try.func9, Try.ntmps9
  go_wp2_with fail
  rw [← hW]
  clear hW
  refine HA.mono ?_
  rintro e w1 ⟨rfl, hb1⟩
  have hbw1 := bel_then hbW hb1
  have HT1 := HT.out.below hb1
  have C0 := B0.below hb1
  have C1 := B1.below hb1
  clear HA hbW hb1 HT B0 B1
  obtain ⟨t0, t1, t2, t3, t4, t5, t6, t7, t8⟩ := C1.nine
  have hlt1 := C1.lt
  have HS := shorto_spec ⟨sp, dp, sq, ak, fl, wi, ur, Ao, no, co, Ab, nb, cb, l, body⟩ w1 HT1
  have HTT := Lib.hid HT1
  clear HT1
  go_wp2_with fail
  refine HS.mono ?_
  rintro e w2 ⟨b, rfl, hshort, hb2⟩
  have HSH := Lib.hid hshort
  have hbw2 := bel_then hbw1 hb2
  have HT2 := Lib.hid (HTT.out.below hb2)
  have D0 := C0.below hb2
  have D1 := C1.below hb2
  clear HS hbw1 hb2 HTT C0 C1 hlt1 hshort t0 t1 t2 t3 t4 t5 t6 t7 t8
  cases b
  · go_wp2_with fail
    go_ret
    exact ⟨rfl, hbw2⟩
  obtain ⟨hnb, hno, h300⟩ := HSH.out rfl
  have H300 := Lib.hid h300
  clear HSH h300
  simp only at hnb hno
  obtain ⟨a0, a1, a2, a3, a4, a5, a6, a7, a8, a9, a10, a11⟩ := D0.twelve
  have hlt0 := D0.lt
  obtain ⟨rt, hrt⟩ : ∃ rt, Win.right ⟨xe, xm, xu, xw, xs, xh⟩ ⟨ye, ym, yu, yw, ys, yh⟩ = rt := ⟨_, rfl⟩
  have HR := win_right xe xm xu xw xs xh ye ym yu yw ys yh w2
  rw [hrt] at HR
  have HRT : Hid (Win.right (⟨ye, ym, yu, yw, ys, yh⟩ : Win.S) (⟨xe, xm, xu, xw, xs, xh⟩ : Win.S) = rt) := Lib.hid (by rw [← hrt]; exact Win.right_comm _ _)
  clear hrt
  go_wp2_with fail
  refine HR.mono ?_
  rintro e w3 ⟨rfl, hb3⟩
  have hbw3 := bel_then hbw2 hb3
  have E0 := D0.below hb3
  have E1 := D1.below hb3
  have HT3 := Lib.hid (HT2.out.below hb3)
  clear HR hbw2 hb3 D0 D1 HT2 hlt0 a0 a1 a2 a3 a4 a5 a6 a7 a8 a9 a10 a11
  obtain ⟨a0, a1, a2, a3, a4, a5, a6, a7, a8, a9, a10, a11⟩ := E0.twelve
  obtain ⟨t0, t1, t2, t3, t4, t5, t6, t7, t8⟩ := E1.nine
  have hlt0 := E0.lt
  have hlt1 := E1.lt
  cases rt
  · go_wp2_with fail
    go_ret
    exact ⟨rfl, hbw3⟩
  cases hxh : xh
  · subst hxh
    go_wp2_with fail
    go_ret
    exact ⟨rfl, hbw3⟩
  cases hyh : yh
  · subst hyh
    go_wp2_with fail
    go_ret
    exact ⟨rfl, hbw3⟩
  subst hxh hyh
  obtain ⟨⟨⟨⟨pe, pm, pu, pw, ps, ph⟩, ⟨qe, qm, qu, qw, qs, qh⟩⟩, bad⟩, hP⟩ : ∃ P : (Win.S × Win.S) × Int, Win.pass (⟨ye, ym, yu, yw, ys, true⟩ : Win.S) (⟨xe, xm, xu, xw, xs, true⟩ : Win.S) sq ak wi (State.size nb fl) (Win.scale l) (State.has fl 2) (State.has fl 16) = P := ⟨_, rfl⟩
  have HSC := Win.scale_bd l (fun o ho => (HT3.out.opts.2.1 o ho).2.1)
  have HP : Hid (Win.pass (⟨ye, ym, yu, yw, ys, true⟩ : Win.S) (⟨xe, xm, xu, xw, xs, true⟩ : Win.S) sq ak wi (State.size nb fl) (Win.scale l) (State.has fl 2) (State.has fl 16) = ((⟨pe, pm, pu, pw, ps, ph⟩, ⟨qe, qm, qu, qw, qs, qh⟩), bad)) := Lib.hid hP
  have HC : Calls Try.prog 20 #[.agg (List.toArray [.int .u32 xe, .int .u32 xm, .int .u32 xu, .int .i64 xw, .int .i64 xs, .bool true, .int .u32 ye, .int .u32 ym, .int .u32 yu, .int .i64 yw, .int .i64 ys, .bool true]), .int .i64 1, .agg #[.int .i64 sp, .int .i64 dp, .int .u32 sq, .int .u32 ak, .int .i64 fl, .int .i64 wi, .int .i64 ur, .slice Ao no co, .slice Ab nb cb]] w3 fun e w' => e = .returned (.tuple #[.agg #[.int .u32 qe, .int .u32 qm, .int .u32 qu, .int .i64 qw, .int .i64 qs, .bool qh, .int .u32 pe, .int .u32 pm, .int .u32 pu, .int .i64 pw, .int .i64 ps, .bool ph], .int .i64 bad]) ∧ Below w3.heap.size w3 w' := by
    have h := win_pass1 xe xm xu xw xs true ye ym yu yw ys true sp dp sq ak fl wi ur Ao no co Ab nb cb l w3 HT3.out.opts (by omega) H300.out (by omega)
    rw [hP] at h
    exact h
  clear hP
  go_wp2_with fail
  refine HC.mono ?_
  rintro e w4 ⟨rfl, hb4⟩
  obtain ⟨WN, hWN⟩ : ∃ WN, WN = w4.alloc (.cells #[.int .u32 qe, .int .u32 qm, .int .u32 qu, .int .i64 qw, .int .i64 qs, .bool qh, .int .u32 pe, .int .u32 pm, .int .u32 pu, .int .i64 pw, .int .i64 ps, .bool ph] 47) := ⟨_, rfl⟩
  have hb4' : Below w3.heap.size w3 WN := by rw [hWN]; exact bel_grow hb4 _
  have N0 : BlkV WN w4.heap.size 47 [.int .u32 qe, .int .u32 qm, .int .u32 qu, .int .i64 qw, .int .i64 qs, .bool qh, .int .u32 pe, .int .u32 pm, .int .u32 pu, .int .i64 pw, .int .i64 ps, .bool ph] := by rw [hWN]; exact BlkV.new _ _ _
  have G0 := E0.below hb4'
  have G1 := E1.below hb4'
  have HT4 := Lib.hid (HT3.out.below hb4')
  have hbwN := bel_then hbw3 hb4'
  have hg4 : ¬ w4.heap.size = w.heap.size := by have := hb4.size; omega
  have hg5 : ¬ w4.heap.size = w.heap.size + 1 := by have := hb4.size; omega
  clear HC hb4 hb4' E0 E1 HT3 hbw3 hlt0 hlt1 a0 a1 a2 a3 a4 a5 a6 a7 a8 a9 a10 a11 t0 t1 t2 t3 t4 t5 t6 t7 t8
  obtain ⟨a0, a1, a2, a3, a4, a5, a6, a7, a8, a9, a10, a11⟩ := G0.twelve
  obtain ⟨t0, t1, t2, t3, t4, t5, t6, t7, t8⟩ := G1.nine
  obtain ⟨m0, m1, m2, m3, m4, m5, m6, m7, m8, m9, m10, m11⟩ := N0.twelve
  have hlt0 := G0.lt
  have hlt1 := G1.lt
  have hltN := N0.lt
  have hnx0 : ∀ w', (Instr.indexAt 47 (.pointer (some ⟨w4.heap.size, 0, none⟩)) (.int .i64 0)).run Try.prog w' = .ok (.pointer (some ⟨w4.heap.size, 0, none⟩)) w' := fun w' => win_at w4.heap.size 0 (by decide) w'
  have hnx1 : ∀ w', (Instr.indexAt 47 (.pointer (some ⟨w4.heap.size, 0, none⟩)) (.int .i64 1)).run Try.prog w' = .ok (.pointer (some ⟨w4.heap.size, 6, none⟩)) w' := fun w' => win_at w4.heap.size 1 (by decide) w'
  have hsz0 : 0 ≤ State.size nb fl := Win.size_nonneg nb fl
  go_upto_region 7 with fail
  rw [← hWN]
  clear hWN
  by_cases hbad : bad = 0
  case neg =>
    have hne : (bad != 0) = true := by rw [bne_iff_ne]; exact hbad
    clear HP hbad
    go_quiet (fail)
    go_wp2_with fail
    go_ret
    exact ⟨rfl, by repeat (first | with_reducible exact hbwN | with_reducible refine bel_drewN ?_ _ | with_reducible refine Below.drew ?_)⟩
  case pos =>
  subst hbad
  have hne : ((0 : Int) != 0) = false := rfl
  have HC1 : Hid (∀ w' : World, Calls Try.prog 23 #[.agg #[.int .i64 sp, .int .i64 dp, .int .u32 sq, .int .u32 ak, .int .i64 fl, .int .i64 wi, .int .i64 ur, .slice Ao no co, .slice Ab nb cb]] w' fun e w2 => e = .returned (.int .i64 (State.size nb fl)) ∧ Below w'.heap.size w' w2) := Lib.hid fun w' => size_spec sp dp sq ak fl wi ur Ao no co Ab nb cb w' (by omega)
  have KF : Hid (∀ w' : World, Below WN.heap.size WN w' → w'.cell? ⟨w.heap.size + 1, 0, none⟩ = some (.int .i64 sp) ∧ w'.cell? ⟨w.heap.size + 1, 1, none⟩ = some (.int .i64 dp) ∧ w'.cell? ⟨w.heap.size + 1, 2, none⟩ = some (.int .u32 sq) ∧ w'.cell? ⟨w.heap.size + 1, 3, none⟩ = some (.int .u32 ak) ∧ w'.cell? ⟨w.heap.size + 1, 4, none⟩ = some (.int .i64 fl) ∧ w'.cell? ⟨w.heap.size + 1, 5, none⟩ = some (.int .i64 wi) ∧ w'.cell? ⟨w.heap.size + 1, 6, none⟩ = some (.int .i64 ur) ∧ w'.cell? ⟨w.heap.size + 1, 7, none⟩ = some (.slice Ao no co) ∧ w'.cell? ⟨w.heap.size + 1, 8, none⟩ = some (.slice Ab nb cb) ∧ w'.cell? ⟨w.heap.size, 3, none⟩ = some (.int .i64 xw)) := Lib.hid fun w' hb => by
    obtain ⟨t0, t1, t2, t3, t4, t5, t6, t7, t8⟩ := (G1.below hb).nine
    obtain ⟨a0, a1, a2, a3, a4, a5, a6, a7, a8, a9, a10, a11⟩ := (G0.below hb).twelve
    exact ⟨t0, t1, t2, t3, t4, t5, t6, t7, t8, a3⟩
  obtain ⟨z, hz⟩ : ∃ z, State.size nb fl = z := ⟨_, rfl⟩
  rw [hz] at HC1 hsz0
  have HZ := Lib.hid hz
  clear hz
  have HRR := HRT.out
  have HQ : Hid (z ≤ xw → Win.pass (⟨pe, pm, pu, pw, ps, ph⟩ : Win.S) (⟨qe, qm, qu, qw, qs, qh⟩ : Win.S) sq ak wi (State.size nb fl) (Win.scale l) (State.has fl 2) (State.has fl 16) = (((⟨pe, pm, pu, pw, ps, ph⟩ : Win.S), (⟨qe, qm, qu, qw, qs, qh⟩ : Win.S)), 0)) := Lib.hid (fun h => by
    have := Win.twice (size := State.size nb fl) (sc := Win.scale l) (sq := sq) (ak := ak) (wi := wi) (syn := State.has fl 2) (ack := State.has fl 16) HRR rfl rfl HSC.1 HSC.2 (by rw [HZ.out]; exact hsz0) (by rw [HZ.out]; exact h) (by rw [HP.out])
    rw [HP.out] at this
    exact this)
  clear HP HRR HRT HSC
  by_cases hgt : xw < z
  · go_region_held3 (fun w' => w'.cell? ⟨w.heap.size + 1, 0, none⟩ = some (.int .i64 sp) ∧ w'.cell? ⟨w.heap.size + 1, 1, none⟩ = some (.int .i64 dp) ∧ w'.cell? ⟨w.heap.size + 1, 2, none⟩ = some (.int .u32 sq) ∧ w'.cell? ⟨w.heap.size + 1, 3, none⟩ = some (.int .u32 ak) ∧ w'.cell? ⟨w.heap.size + 1, 4, none⟩ = some (.int .i64 fl) ∧ w'.cell? ⟨w.heap.size + 1, 5, none⟩ = some (.int .i64 wi) ∧ w'.cell? ⟨w.heap.size + 1, 6, none⟩ = some (.int .i64 ur) ∧ w'.cell? ⟨w.heap.size + 1, 7, none⟩ = some (.slice Ao no co) ∧ w'.cell? ⟨w.heap.size + 1, 8, none⟩ = some (.slice Ab nb cb) ∧ w'.cell? ⟨w.heap.size, 3, none⟩ = some (.int .i64 xw)) (exact KF.out _ (by repeat (first | with_reducible exact hbn | with_reducible exact Below.refl WN.heap.size WN | with_reducible refine bel_drewN ?_ _ | with_reducible refine Below.drew ?_)))
      (with_reducible first | (refine (HC1.out _).mono ?_; rintro e w9 ⟨rfl, hb9⟩; have hbn : Below WN.heap.size WN w9 := bel_then (by repeat (first | with_reducible exact hbn | with_reducible exact Below.refl WN.heap.size WN | with_reducible refine bel_drewN ?_ _ | with_reducible refine Below.drew ?_)) hb9))
    all_goals
      go_wp2_with fail
      go_ret
      exact ⟨rfl, bel_then hbwN (by repeat (first | with_reducible exact hbn | with_reducible exact Below.refl WN.heap.size WN | with_reducible refine bel_drewN ?_ _ | with_reducible refine Below.drew ?_))⟩
  · have hle := HQ.out (by omega)
    have HC2 : Hid (∀ w' : World, Below WN.heap.size WN w' → Calls Try.prog 20 #[.agg #[.int .u32 qe, .int .u32 qm, .int .u32 qu, .int .i64 qw, .int .i64 qs, .bool qh, .int .u32 pe, .int .u32 pm, .int .u32 pu, .int .i64 pw, .int .i64 ps, .bool ph], .int .i64 1, .agg #[.int .i64 sp, .int .i64 dp, .int .u32 sq, .int .u32 ak, .int .i64 fl, .int .i64 wi, .int .i64 ur, .slice Ao no co, .slice Ab nb cb]] w' fun e w'' => e = .returned (.tuple #[.agg #[.int .u32 qe, .int .u32 qm, .int .u32 qu, .int .i64 qw, .int .i64 qs, .bool qh, .int .u32 pe, .int .u32 pm, .int .u32 pu, .int .i64 pw, .int .i64 ps, .bool ph], .int .i64 0]) ∧ Below w'.heap.size w' w'') := Lib.hid fun w' hb => by
      have h := win_pass1 qe qm qu qw qs qh pe pm pu pw ps ph sp dp sq ak fl wi ur Ao no co Ab nb cb l w' (HT4.out.below hb).opts (by omega) H300.out (by omega)
      rw [hle] at h
      exact h
    clear hle HQ
    go_region_held3 (fun w' => w'.cell? ⟨w.heap.size + 1, 0, none⟩ = some (.int .i64 sp) ∧ w'.cell? ⟨w.heap.size + 1, 1, none⟩ = some (.int .i64 dp) ∧ w'.cell? ⟨w.heap.size + 1, 2, none⟩ = some (.int .u32 sq) ∧ w'.cell? ⟨w.heap.size + 1, 3, none⟩ = some (.int .u32 ak) ∧ w'.cell? ⟨w.heap.size + 1, 4, none⟩ = some (.int .i64 fl) ∧ w'.cell? ⟨w.heap.size + 1, 5, none⟩ = some (.int .i64 wi) ∧ w'.cell? ⟨w.heap.size + 1, 6, none⟩ = some (.int .i64 ur) ∧ w'.cell? ⟨w.heap.size + 1, 7, none⟩ = some (.slice Ao no co) ∧ w'.cell? ⟨w.heap.size + 1, 8, none⟩ = some (.slice Ab nb cb) ∧ w'.cell? ⟨w.heap.size, 3, none⟩ = some (.int .i64 xw)) (exact KF.out _ (by repeat (first | with_reducible exact hbn | with_reducible exact Below.refl WN.heap.size WN | with_reducible refine bel_drewN ?_ _ | with_reducible refine Below.drew ?_)))
      (with_reducible first | (refine (HC1.out _).mono ?_; rintro e w9 ⟨rfl, hb9⟩; have hbn : Below WN.heap.size WN w9 := bel_then (by repeat (first | with_reducible exact hbn | with_reducible exact Below.refl WN.heap.size WN | with_reducible refine bel_drewN ?_ _ | with_reducible refine Below.drew ?_)) hb9))
    all_goals
      have hbz : Below WN.heap.size WN w9 := hbn
      have hbw9 := bel_then hbwN hbz
      have Y1 := G1.below hbz
      have YN := N0.below hbz
      have HC3 := HC2.out w9 hbz
      clear G0 G1 N0 KF HC1 hbwN a0 a1 a2 a3 a4 a5 a6 a7 a8 a9 a10 a11 t0 t1 t2 t3 t4 t5 t6 t7 t8 m0 m1 m2 m3 m4 m5 m6 m7 m8 m9 m10 m11 hlt0 hlt1 hltN
      obtain ⟨t0, t1, t2, t3, t4, t5, t6, t7, t8⟩ := Y1.nine
      obtain ⟨m0, m1, m2, m3, m4, m5, m6, m7, m8, m9, m10, m11⟩ := YN.twelve
      have hlt1 := Y1.lt
      have hltN := YN.lt
      go_wp2_with fail
      refine HC3.mono ?_
      rintro e w10 ⟨rfl, hb10⟩
      obtain ⟨WM, hWM⟩ : ∃ WM, WM = w10.alloc (.cells #[.int .u32 qe, .int .u32 qm, .int .u32 qu, .int .i64 qw, .int .i64 qs, .bool qh, .int .u32 pe, .int .u32 pm, .int .u32 pu, .int .i64 pw, .int .i64 ps, .bool ph] 47) := ⟨_, rfl⟩
      have hb10' : Below w9.heap.size w9 WM := by rw [hWM]; exact bel_grow hb10 _
      have M0 : BlkV WM w10.heap.size 47 [.int .u32 qe, .int .u32 qm, .int .u32 qu, .int .i64 qw, .int .i64 qs, .bool qh, .int .u32 pe, .int .u32 pm, .int .u32 pu, .int .i64 pw, .int .i64 ps, .bool ph] := by rw [hWM]; exact BlkV.new _ _ _
      have ZN := YN.below hb10'
      have hbF := bel_then hbw9 hb10'
      have hE := fun w' => eq_side2 qe qm qu qw qs pe pm pu pw ps qh ph w'
      clear HC3 HC2 Y1 YN hb10 hb10' hbw9 t0 t1 t2 t3 t4 t5 t6 t7 t8 m0 m1 m2 m3 m4 m5 m6 m7 m8 m9 m10 m11 hlt1 hltN
      obtain ⟨m0, m1, m2, m3, m4, m5, m6, m7, m8, m9, m10, m11⟩ := ZN.twelve
      obtain ⟨a0, a1, a2, a3, a4, a5, a6, a7, a8, a9, a10, a11⟩ := M0.twelve
      have hlt1 := M0.lt
      have hltN := ZN.lt
      go_upto_region 10 with fail
      rw [← hWM]
      clear hWM
      go_wp2_with fail
      go_ret
      exact ⟨rfl, hbF⟩
end Go.Proofs.Ytliibpajgdncpaa
