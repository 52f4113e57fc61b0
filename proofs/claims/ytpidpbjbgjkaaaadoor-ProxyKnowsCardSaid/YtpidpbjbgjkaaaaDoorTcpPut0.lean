/- The walks of tcp.length and tcp.Put at no option and no body (printed by gen_tput.py). -/
import Derived.Test.YtpidpbjbgjkaaaaDoorTcpPut
import Derived.Test.YtpidpbjbgjkaaaaDoorProxMoved
import Derived.Lib.JoinLaws
import Derived.Lib.SlFresh
namespace Go.Proofs.YtpidpbjbgjkaaaaDoor
open Go.RowKit
set_option maxRecDepth 8000
set_option linter.unusedVariables false
set_option linter.unusedSimpArgs false
set_option maxHeartbeats 16000000 in
theorem tcp_put0 (t : Tcp.T) (w : World) (hsp0 : 0 ≤ t.sp) (hsp1 : t.sp ≤ 65535) (hdp0 : 0 ≤ t.dp) (hdp1 : t.dp ≤ 65535) (hwi0 : 0 ≤ t.wi) (hwi1 : t.wi ≤ 65535) (hur0 : 0 ≤ t.ur) (hur1 : t.ur ≤ 65535) (hfl0 : 0 ≤ t.fl) (hfl1 : t.fl ≤ 255) :
    Calls Tryd.prog 23 #[.int .u32 1, .int .u32 2, .agg #[.int .i64 t.sp, .int .i64 t.dp, .int .u32 t.sq, .int .u32 t.ak, .int .i64 t.fl, .int .i64 t.wi, .int .i64 t.ur, .slice none 0 0, .slice none 0 0]] w fun e w' => (∃ (v : Value), e = .returned (.tuple #[v, .int .i64 0])) ∧ Below w.heap.size w w' := by
  obtain ⟨W, hW⟩ : ∃ W, W = w.alloc (.cells #[.int .i64 t.sp, .int .i64 t.dp, .int .u32 t.sq, .int .u32 t.ak, .int .i64 t.fl, .int .i64 t.wi, .int .i64 t.ur, .slice none 0 0, .slice none 0 0] 29) := ⟨_, rfl⟩
  have hbW : Below w.heap.size w W := by rw [hW]; exact bel_a (Below.refl _ _) _
  have BT : BlkV W w.heap.size 29 [.int .i64 t.sp, .int .i64 t.dp, .int .u32 t.sq, .int .u32 t.ak, .int .i64 t.fl, .int .i64 t.wi, .int .i64 t.ur, .slice none 0 0, .slice none 0 0] := by rw [hW]; exact BlkV.new _ _ _
  have HLEN := Lib.hid (tcp_length0 none 0 W)
  have HW := Lib.hid (fun (n m : Int) (w1 : World) (h : 0 ≤ n ∧ n ≤ m) => tcp_within n m w1 h)
  have hmk : ∀ w : World, (Instr.makeSlice 27 (.int .i64 20) (.int .i64 20)).run Tryd.prog w = .ok (.slice (some ⟨w.heap.size, 0, none⟩) 20 20) (w.alloc (.cells #[.int .u8 0, .int .u8 0, .int .u8 0, .int .u8 0, .int .u8 0, .int .u8 0, .int .u8 0, .int .u8 0, .int .u8 0, .int .u8 0, .int .u8 0, .int .u8 0, .int .u8 0, .int .u8 0, .int .u8 0, .int .u8 0, .int .u8 0, .int .u8 0, .int .u8 0, .int .u8 0] 5)) := fun _ => by kernel_rfl
  have KC : Hid (∀ w' : World, BlkV w' w.heap.size 29 [.int .i64 t.sp, .int .i64 t.dp, .int .u32 t.sq, .int .u32 t.ak, .int .i64 t.fl, .int .i64 t.wi, .int .i64 t.ur, .slice none 0 0, .slice none 0 0] → (w'.cell? ⟨w.heap.size, 0, none⟩ = some (.int .i64 t.sp) ∧ w'.cell? ⟨w.heap.size, 1, none⟩ = some (.int .i64 t.dp) ∧ w'.cell? ⟨w.heap.size, 2, none⟩ = some (.int .u32 t.sq) ∧ w'.cell? ⟨w.heap.size, 3, none⟩ = some (.int .u32 t.ak) ∧ w'.cell? ⟨w.heap.size, 4, none⟩ = some (.int .i64 t.fl) ∧ w'.cell? ⟨w.heap.size, 5, none⟩ = some (.int .i64 t.wi) ∧ w'.cell? ⟨w.heap.size, 6, none⟩ = some (.int .i64 t.ur) ∧ w'.cell? ⟨w.heap.size, 7, none⟩ = some (.slice none 0 0) ∧ w'.cell? ⟨w.heap.size, 8, none⟩ = some (.slice none 0 0))) := Lib.hid fun w' h => ⟨h.cell rfl, h.cell rfl, h.cell rfl, h.cell rfl, h.cell rfl, h.cell rfl, h.cell rfl, h.cell rfl, h.cell rfl⟩
  have c7 := BT.cell (i := 7) rfl
  go_enter Tryd.func23, Tryd.ntmps23
  go_upto_region 1 with fail
  rw [← hW]
  clear hW
  go_wp2_with fail
  refine HLEN.out.mono ?_
  rintro e w1 ⟨rfl, hb1⟩
  have BT1 := BT.below hb1
  have hbw1 := bel_then hbW hb1
  obtain ⟨c0, c1, c2, c3, c4, c5, c6, c7', c8⟩ := KC.out w1 BT1
  clear HLEN BT hb1 hbW c7
  go_wp2_with fail
  refine (HW.out _ _ _ ⟨hsp0, hsp1⟩).mono ?_
  rintro e w2 ⟨rfl, rfl⟩
  go_wp2_with fail
  refine (HW.out _ _ _ ⟨hdp0, hdp1⟩).mono ?_
  rintro e w2 ⟨rfl, rfl⟩
  go_wp2_with fail
  refine (HW.out _ _ _ ⟨hwi0, hwi1⟩).mono ?_
  rintro e w2 ⟨rfl, rfl⟩
  go_wp2_with fail
  refine (HW.out _ _ _ ⟨hur0, hur1⟩).mono ?_
  rintro e w2 ⟨rfl, rfl⟩
  go_wp2_with fail
  refine (HW.out _ _ _ ⟨hfl0, hfl1⟩).mono ?_
  rintro e w2 ⟨rfl, rfl⟩
  go_upto_region 6 with fail
  obtain ⟨W2, hW2⟩ : ∃ W2, W2 = w1.alloc (.cells #[.int .u8 0, .int .u8 0, .int .u8 0, .int .u8 0, .int .u8 0, .int .u8 0, .int .u8 0, .int .u8 0, .int .u8 0, .int .u8 0, .int .u8 0, .int .u8 0, .int .u8 0, .int .u8 0, .int .u8 0, .int .u8 0, .int .u8 0, .int .u8 0, .int .u8 0, .int .u8 0] 5) := ⟨_, rfl⟩
  obtain ⟨g, hg⟩ : ∃ g, g = w1.heap.size := ⟨_, rfl⟩
  have O2 : Hid (OwnB W2 w1.heap.size g 20 20) := Lib.hid (by
    rw [hW2, hg]
    refine ⟨List.replicate 20 0, fun x hx => ?_, ?_⟩
    · rw [List.eq_of_mem_replicate hx]; omega
    · exact World.ownsRow_lit w1 #[.int .u8 0, .int .u8 0, .int .u8 0, .int .u8 0, .int .u8 0, .int .u8 0, .int .u8 0, .int .u8 0, .int .u8 0, .int .u8 0, .int .u8 0, .int .u8 0, .int .u8 0, .int .u8 0, .int .u8 0, .int .u8 0, .int .u8 0, .int .u8 0, .int .u8 0, .int .u8 0] 20 (Nat.le_refl _) (by decide) rfl)
  have BT2 : BlkV W2 w.heap.size 29 [.int .i64 t.sp, .int .i64 t.dp, .int .u32 t.sq, .int .u32 t.ak, .int .i64 t.fl, .int .i64 t.wi, .int .i64 t.ur, .slice none 0 0, .slice none 0 0] := by rw [hW2]; exact BT1.alloc _
  have hb2 : Below w.heap.size w W2 := by rw [hW2]; exact bel_a hbw1 _
  have hgw : w.heap.size < g := by rw [hg]; exact BT1.lt
  have O2lt : Hid (g < W2.heap.size) := Lib.hid (by rw [hW2, hg]; simp)
  have hb20 : Hid (Below w1.heap.size w1 W2) := Lib.hid (by rw [hW2]; exact bel_a (Below.refl _ _) _)
  rw [← hW2, ← hg]
  clear hW2 hmk c0 c1 c2 c3 c4 c5 c6 c7' c8 HW
  obtain ⟨B, hBB⟩ : ∃ B, B = w1.heap.size := ⟨_, rfl⟩
  rw [← hBB] at O2
  have hgB : B ≤ g := by omega
  have HBB := Lib.hid hBB
  have HH := Lib.hid (fun (a n c : Nat) (v : Int) (w' : World) (h : OwnB w' B g 20 20) (ha : a + 2 ≤ 20) (hn : 2 ≤ n) => tcp_half g a 20 20 n c v B w' h ha hn)
  have HWH := Lib.hid (fun (a n c : Nat) (v : Int) (w' : World) (h : OwnB w' B g 20 20) (ha : a + 4 ≤ 20) (hn : 4 ≤ n) (hc : n ≤ c) (hc2 : c ≤ 9223372036854775807) => tcp_whole g a 20 20 n c v B w' h ha hn hc hc2)
  clear hBB hg
  have k0 := BT2.cell (i := 0) rfl
  go_wp2_with fail
  refine (HH.out 0 20 20 _ W2 O2.out (by omega) (by omega)).mono ?_
  rintro e w3 ⟨rfl, o3, q3⟩
  have O3 := Lib.hid o3
  have Q3 := Lib.hid q3
  have BT3 := BT2.grown q3 (by omega)
  clear o3 q3 O2 BT2 k0
  go_upto_region 7 with fail
  refine wp_region_held_drew (S := fun w' => (w'.cell? ⟨w.heap.size, 0, none⟩ = some (.int .i64 t.sp) ∧ w'.cell? ⟨w.heap.size, 1, none⟩ = some (.int .i64 t.dp) ∧ w'.cell? ⟨w.heap.size, 2, none⟩ = some (.int .u32 t.sq) ∧ w'.cell? ⟨w.heap.size, 3, none⟩ = some (.int .u32 t.ak) ∧ w'.cell? ⟨w.heap.size, 4, none⟩ = some (.int .i64 t.fl) ∧ w'.cell? ⟨w.heap.size, 5, none⟩ = some (.int .i64 t.wi) ∧ w'.cell? ⟨w.heap.size, 6, none⟩ = some (.int .i64 t.ur) ∧ w'.cell? ⟨w.heap.size, 7, none⟩ = some (.slice none 0 0) ∧ w'.cell? ⟨w.heap.size, 8, none⟩ = some (.slice none 0 0))) (by kernel_rfl) (KC.out _ (show BlkV w3.drew _ _ _ from BT3)) (fun hHeld => ?_)
  refine wpAnyH_takeD (i := 0) (some 77) (v := ?_) rfl rfl (by kernel_rfl) (by kernel_rfl) (by kernel_rfl) (fun _ _ _ h => h) (Or.inl ⟨by rfl, ?_⟩) (by assumption) ?_
  rotate_left
  · (intro w hSw; (try dsimp only at hSw); go_simp; try with_reducible rfl)
  try simp only [Act.put, List.setIfInBounds_toArray, List.set_cons_zero, List.set_cons_succ]
  refine wpAnyH_takeD (i := 1) (some 78) (v := ?_) rfl rfl (by kernel_rfl) (by kernel_rfl) (by kernel_rfl) (fun _ _ _ h => h) (Or.inl ⟨by rfl, ?_⟩) (by assumption) ?_
  rotate_left
  · (intro w hSw; (try dsimp only at hSw); go_simp; try with_reducible rfl)
  try simp only [Act.put, List.setIfInBounds_toArray, List.set_cons_zero, List.set_cons_succ]
  refine wpAnyH_takeD (i := 2) (some 79) (v := ?_) rfl rfl (by kernel_rfl) (by kernel_rfl) (by kernel_rfl) (fun _ _ _ h => h) (Or.inl ⟨by rfl, ?_⟩) (by assumption) ?_
  rotate_left
  · (intro w hSw; (try dsimp only at hSw); go_simp; try with_reducible rfl)
  try simp only [Act.put, List.setIfInBounds_toArray, List.set_cons_zero, List.set_cons_succ]
  refine wpAnyH_takeD (i := 3) (some 80) (v := ?_) rfl rfl (by kernel_rfl) (by kernel_rfl) (by kernel_rfl) (fun _ _ _ h => h) (Or.inl ⟨by rfl, ?_⟩) (by assumption) ?_
  rotate_left
  · (intro w hSw; (try dsimp only at hSw); go_simp; try with_reducible rfl)
  try simp only [Act.put, List.setIfInBounds_toArray, List.set_cons_zero, List.set_cons_succ]
  refine wpAnyH_ready (rs := [4]) (by kernel_rfl) (by simp) ?_
  refine AllReadyH.cons (o := _) rfl (fun K hK => ?_) AllReadyH.nil
  go_simp
  refine (HH.out 2 _ _ _ w3.drew O3.out (by omega) (by omega)).mono ?_
  rintro e w4 ⟨rfl, o4, q4⟩
  have O4 := Lib.hid o4
  have Q4 := Lib.hid (grown_trans Q3.out (grown_trans (grown_drewN (grown_refl w3 (some g)) 1) q4))
  have BT4 := (show BlkV w3.drew _ _ _ from BT3).grown q4 (by omega)
  clear o4 q4 O3 Q3 BT3
  go_wp2_with fail
  refine hK.out _ _ (KC.out _ BT4) (fun hHeld => ?_)
  clear hK K
  try simp only [Act.put, List.setIfInBounds_toArray, List.set_cons_zero, List.set_cons_succ]
  refine wpAnyH_done (by kernel_rfl) ?_ _
  clear hHeld
  go_upto_region 8 with fail
  refine wp_region_held_drew (S := fun w' => (w'.cell? ⟨w.heap.size, 0, none⟩ = some (.int .i64 t.sp) ∧ w'.cell? ⟨w.heap.size, 1, none⟩ = some (.int .i64 t.dp) ∧ w'.cell? ⟨w.heap.size, 2, none⟩ = some (.int .u32 t.sq) ∧ w'.cell? ⟨w.heap.size, 3, none⟩ = some (.int .u32 t.ak) ∧ w'.cell? ⟨w.heap.size, 4, none⟩ = some (.int .i64 t.fl) ∧ w'.cell? ⟨w.heap.size, 5, none⟩ = some (.int .i64 t.wi) ∧ w'.cell? ⟨w.heap.size, 6, none⟩ = some (.int .i64 t.ur) ∧ w'.cell? ⟨w.heap.size, 7, none⟩ = some (.slice none 0 0) ∧ w'.cell? ⟨w.heap.size, 8, none⟩ = some (.slice none 0 0))) (by kernel_rfl) (KC.out _ (show BlkV w4.drew _ _ _ from BT4)) (fun hHeld => ?_)
  refine wpAnyH_takeD (i := 0) (some 82) (v := ?_) rfl rfl (by kernel_rfl) (by kernel_rfl) (by kernel_rfl) (fun _ _ _ h => h) (Or.inl ⟨by rfl, ?_⟩) (by assumption) ?_
  rotate_left
  · (intro w hSw; (try dsimp only at hSw); go_simp; try with_reducible rfl)
  try simp only [Act.put, List.setIfInBounds_toArray, List.set_cons_zero, List.set_cons_succ]
  refine wpAnyH_takeD (i := 1) (some 83) (v := ?_) rfl rfl (by kernel_rfl) (by kernel_rfl) (by kernel_rfl) (fun _ _ _ h => h) (Or.inl ⟨by rfl, ?_⟩) (by assumption) ?_
  rotate_left
  · (intro w hSw; (try dsimp only at hSw); go_simp; try with_reducible rfl)
  try simp only [Act.put, List.setIfInBounds_toArray, List.set_cons_zero, List.set_cons_succ]
  refine wpAnyH_takeD (i := 2) (some 84) (v := ?_) rfl rfl (by kernel_rfl) (by kernel_rfl) (by kernel_rfl) (fun _ _ _ h => h) (Or.inl ⟨by rfl, ?_⟩) (by assumption) ?_
  rotate_left
  · (intro w hSw; (try dsimp only at hSw); go_simp; try with_reducible rfl)
  try simp only [Act.put, List.setIfInBounds_toArray, List.set_cons_zero, List.set_cons_succ]
  refine wpAnyH_takeD (i := 3) (some 85) (v := ?_) rfl rfl (by kernel_rfl) (by kernel_rfl) (by kernel_rfl) (fun _ _ _ h => h) (Or.inl ⟨by rfl, ?_⟩) (by assumption) ?_
  rotate_left
  · (intro w hSw; (try dsimp only at hSw); go_simp; try with_reducible rfl)
  try simp only [Act.put, List.setIfInBounds_toArray, List.set_cons_zero, List.set_cons_succ]
  refine wpAnyH_ready (rs := [4]) (by kernel_rfl) (by simp) ?_
  refine AllReadyH.cons (o := _) rfl (fun K hK => ?_) AllReadyH.nil
  go_simp
  refine (HWH.out 4 _ _ _ w4.drew O4.out (by omega) (by omega) (by omega) (by omega)).mono ?_
  rintro e w5 ⟨rfl, o5, q5⟩
  have O5 := Lib.hid o5
  have Q5 := Lib.hid (grown_trans Q4.out (grown_trans (grown_drewN (grown_refl w4 (some g)) 1) q5))
  have BT5 := (show BlkV w4.drew _ _ _ from BT4).grown q5 (by omega)
  clear o5 q5 O4 Q4 BT4
  go_wp2_with fail
  refine hK.out _ _ (KC.out _ BT5) (fun hHeld => ?_)
  clear hK K
  try simp only [Act.put, List.setIfInBounds_toArray, List.set_cons_zero, List.set_cons_succ]
  refine wpAnyH_done (by kernel_rfl) ?_ _
  clear hHeld
  go_upto_region 9 with fail
  refine wp_region_held_drew (S := fun w' => (w'.cell? ⟨w.heap.size, 0, none⟩ = some (.int .i64 t.sp) ∧ w'.cell? ⟨w.heap.size, 1, none⟩ = some (.int .i64 t.dp) ∧ w'.cell? ⟨w.heap.size, 2, none⟩ = some (.int .u32 t.sq) ∧ w'.cell? ⟨w.heap.size, 3, none⟩ = some (.int .u32 t.ak) ∧ w'.cell? ⟨w.heap.size, 4, none⟩ = some (.int .i64 t.fl) ∧ w'.cell? ⟨w.heap.size, 5, none⟩ = some (.int .i64 t.wi) ∧ w'.cell? ⟨w.heap.size, 6, none⟩ = some (.int .i64 t.ur) ∧ w'.cell? ⟨w.heap.size, 7, none⟩ = some (.slice none 0 0) ∧ w'.cell? ⟨w.heap.size, 8, none⟩ = some (.slice none 0 0))) (by kernel_rfl) (KC.out _ (show BlkV w5.drew _ _ _ from BT5)) (fun hHeld => ?_)
  refine wpAnyH_takeD (i := 0) (some 87) (v := ?_) rfl rfl (by kernel_rfl) (by kernel_rfl) (by kernel_rfl) (fun _ _ _ h => h) (Or.inl ⟨by rfl, ?_⟩) (by assumption) ?_
  rotate_left
  · (intro w hSw; (try dsimp only at hSw); go_simp; try with_reducible rfl)
  try simp only [Act.put, List.setIfInBounds_toArray, List.set_cons_zero, List.set_cons_succ]
  refine wpAnyH_takeD (i := 1) (some 88) (v := ?_) rfl rfl (by kernel_rfl) (by kernel_rfl) (by kernel_rfl) (fun _ _ _ h => h) (Or.inl ⟨by rfl, ?_⟩) (by assumption) ?_
  rotate_left
  · (intro w hSw; (try dsimp only at hSw); go_simp; try with_reducible rfl)
  try simp only [Act.put, List.setIfInBounds_toArray, List.set_cons_zero, List.set_cons_succ]
  refine wpAnyH_takeD (i := 2) (some 89) (v := ?_) rfl rfl (by kernel_rfl) (by kernel_rfl) (by kernel_rfl) (fun _ _ _ h => h) (Or.inl ⟨by rfl, ?_⟩) (by assumption) ?_
  rotate_left
  · (intro w hSw; (try dsimp only at hSw); go_simp; try with_reducible rfl)
  try simp only [Act.put, List.setIfInBounds_toArray, List.set_cons_zero, List.set_cons_succ]
  refine wpAnyH_takeD (i := 3) (some 90) (v := ?_) rfl rfl (by kernel_rfl) (by kernel_rfl) (by kernel_rfl) (fun _ _ _ h => h) (Or.inl ⟨by rfl, ?_⟩) (by assumption) ?_
  rotate_left
  · (intro w hSw; (try dsimp only at hSw); go_simp; try with_reducible rfl)
  try simp only [Act.put, List.setIfInBounds_toArray, List.set_cons_zero, List.set_cons_succ]
  refine wpAnyH_ready (rs := [4]) (by kernel_rfl) (by simp) ?_
  refine AllReadyH.cons (o := _) rfl (fun K hK => ?_) AllReadyH.nil
  go_simp
  refine (HWH.out 8 _ _ _ w5.drew O5.out (by omega) (by omega) (by omega) (by omega)).mono ?_
  rintro e w6 ⟨rfl, o6, q6⟩
  have O6 := Lib.hid o6
  have Q6 := Lib.hid (grown_trans Q5.out (grown_trans (grown_drewN (grown_refl w5 (some g)) 1) q6))
  have BT6 := (show BlkV w5.drew _ _ _ from BT5).grown q6 (by omega)
  clear o6 q6 O5 Q5 BT5
  go_wp2_with fail
  refine hK.out _ _ (KC.out _ BT6) (fun hHeld => ?_)
  clear hK K
  try simp only [Act.put, List.setIfInBounds_toArray, List.set_cons_zero, List.set_cons_succ]
  refine wpAnyH_done (by kernel_rfl) ?_ _
  clear hHeld
  go_upto_region 10 with fail
  have hw1 : IntKind.i64.wrap 5 = 5 := by decide
  have hw2 : IntKind.i64.wrap 80 = 80 := by decide
  have hw3 : IntKind.u8.wrap 80 = 80 := by decide
  have hw4 : IntKind.u8.wrap t.fl = t.fl := by rw [IntKind.wrap_u8]; omega
  refine wp_region_held_drew (S := fun w' => (w'.cell? ⟨w.heap.size, 0, none⟩ = some (.int .i64 t.sp) ∧ w'.cell? ⟨w.heap.size, 1, none⟩ = some (.int .i64 t.dp) ∧ w'.cell? ⟨w.heap.size, 2, none⟩ = some (.int .u32 t.sq) ∧ w'.cell? ⟨w.heap.size, 3, none⟩ = some (.int .u32 t.ak) ∧ w'.cell? ⟨w.heap.size, 4, none⟩ = some (.int .i64 t.fl) ∧ w'.cell? ⟨w.heap.size, 5, none⟩ = some (.int .i64 t.wi) ∧ w'.cell? ⟨w.heap.size, 6, none⟩ = some (.int .i64 t.ur) ∧ w'.cell? ⟨w.heap.size, 7, none⟩ = some (.slice none 0 0) ∧ w'.cell? ⟨w.heap.size, 8, none⟩ = some (.slice none 0 0))) (by kernel_rfl) (KC.out _ (show BlkV w6.drew _ _ _ from BT6)) (fun hHeld => ?_)
  refine wpAnyH_takeD (i := 0) (some 92) (v := ?_) rfl rfl (by kernel_rfl) (by kernel_rfl) (by kernel_rfl) (fun _ _ _ h => h) (Or.inl ⟨by rfl, ?_⟩) (by assumption) ?_
  rotate_left
  · (intro w hSw; (try dsimp only at hSw); go_simp; try with_reducible rfl)
  try simp only [Act.put, List.setIfInBounds_toArray, List.set_cons_zero, List.set_cons_succ]
  refine wpAnyH_takeD (i := 1) (some 93) (v := ?_) rfl rfl (by kernel_rfl) (by kernel_rfl) (by kernel_rfl) (fun _ _ _ h => h) (Or.inl ⟨by rfl, ?_⟩) (by assumption) ?_
  rotate_left
  · (intro w hSw; (try dsimp only at hSw); go_simp; try with_reducible rfl)
  try simp only [Act.put, List.setIfInBounds_toArray, List.set_cons_zero, List.set_cons_succ]
  refine wpAnyH_takeD (i := 2) (some 94) (v := ?_) rfl rfl (by kernel_rfl) (by kernel_rfl) (by kernel_rfl) (fun _ _ _ h => h) (Or.inl ⟨by rfl, ?_⟩) (by assumption) ?_
  rotate_left
  · (intro w hSw; (try dsimp only at hSw); go_simp; try with_reducible rfl)
  try simp only [Act.put, List.setIfInBounds_toArray, List.set_cons_zero, List.set_cons_succ]
  refine wpAnyH_takeD (i := 3) (some 95) (v := ?_) rfl rfl (by kernel_rfl) (by kernel_rfl) (by kernel_rfl) (fun _ _ _ h => h) (Or.inl ⟨by rfl, ?_⟩) (by assumption) ?_
  rotate_left
  · (intro w hSw; (try dsimp only at hSw); go_simp; try with_reducible rfl)
  try simp only [Act.put, List.setIfInBounds_toArray, List.set_cons_zero, List.set_cons_succ]
  refine wpAnyH_takeD (i := 4) (some 96) (v := ?_) rfl rfl (by kernel_rfl) (by kernel_rfl) (by kernel_rfl) (fun _ _ _ h => h) (Or.inl ⟨by rfl, ?_⟩) (by assumption) ?_
  rotate_left
  · (intro w hSw; (try dsimp only at hSw); go_simp; try with_reducible rfl)
  try simp only [Act.put, List.setIfInBounds_toArray, List.set_cons_zero, List.set_cons_succ]
  refine wpAnyH_takeD (i := 5) (some 97) (v := ?_) rfl rfl (by kernel_rfl) (by kernel_rfl) (by kernel_rfl) (fun _ _ _ h => h) (Or.inl ⟨by rfl, ?_⟩) (by assumption) ?_
  rotate_left
  · (intro w hSw; (try dsimp only at hSw); go_simp; try with_reducible rfl)
  try simp only [Act.put, List.setIfInBounds_toArray, List.set_cons_zero, List.set_cons_succ]
  refine wpAnyH_takeD (i := 6) (some 98) (v := ?_) rfl rfl (by kernel_rfl) (by kernel_rfl) (by kernel_rfl) (fun _ _ _ h => h) (Or.inl ⟨by rfl, ?_⟩) (by assumption) ?_
  rotate_left
  · (intro w hSw; (try dsimp only at hSw); go_simp; try with_reducible rfl)
  try simp only [Act.put, List.setIfInBounds_toArray, List.set_cons_zero, List.set_cons_succ]
  refine wpAnyH_takeD (i := 7) (some 99) (v := ?_) rfl rfl (by kernel_rfl) (by kernel_rfl) (by kernel_rfl) (fun _ _ _ h => h) (Or.inl ⟨by rfl, ?_⟩) (by assumption) ?_
  rotate_left
  · (intro w hSw; (try dsimp only at hSw); go_simp; try with_reducible rfl)
  try simp only [Act.put, List.setIfInBounds_toArray, List.set_cons_zero, List.set_cons_succ]
  refine wpAnyH_takeD (i := 8) (some 100) (v := ?_) rfl rfl (by kernel_rfl) (by kernel_rfl) (by kernel_rfl) (fun _ _ _ h => h) (Or.inl ⟨by rfl, ?_⟩) (by assumption) ?_
  rotate_left
  · (intro w hSw; (try dsimp only at hSw); go_simp; try with_reducible rfl)
  try simp only [Act.put, List.setIfInBounds_toArray, List.set_cons_zero, List.set_cons_succ]
  refine wpAnyH_takeD (i := 9) (some 101) (v := ?_) rfl rfl (by kernel_rfl) (by kernel_rfl) (by kernel_rfl) (fun _ _ _ h => h) (Or.inl ⟨by rfl, ?_⟩) (by assumption) ?_
  rotate_left
  · (intro w hSw; (try dsimp only at hSw); go_simp; try with_reducible rfl)
  try simp only [Act.put, List.setIfInBounds_toArray, List.set_cons_zero, List.set_cons_succ]
  refine wpAnyH_ready (rs := [10]) (by kernel_rfl) (by simp) ?_
  refine AllReadyH.cons (o := _) rfl (fun K hK => ?_) AllReadyH.nil
  obtain ⟨⟨x12, y12⟩, z12⟩ := (show OwnB w6.drew B g 20 20 from O6.out).cell (i := 12) (by omega)
  go_simp
  obtain ⟨w7, hw7⟩ : ∃ w7, w7 = w6.setCell ⟨g, 12, none⟩ (.int .u8 80) := ⟨_, rfl⟩
  obtain ⟨oa, qa⟩ := O6.out.set 12 (x := 80) (by decide) (by decide)
  rw [← hw7] at oa qa ⊢
  have BT7 := BT6.grown qa (by omega)
  have O7 := Lib.hid oa
  have Q7 := Lib.hid (grown_trans Q6.out qa)
  clear hw7 oa qa y12 z12 BT6 O6 Q6
  refine hK.out _ _ (KC.out _ (show BlkV w7.drew _ _ _ from BT7)) (fun hHeld => ?_)
  clear hK K
  try simp only [Act.put, List.setIfInBounds_toArray, List.set_cons_zero, List.set_cons_succ]
  refine wpAnyH_takeD (i := 11) (some 102) (v := ?_) rfl rfl (by kernel_rfl) (by kernel_rfl) (by kernel_rfl) (fun _ _ _ h => h) (Or.inl ⟨by rfl, ?_⟩) (by assumption) ?_
  rotate_left
  · (intro w hSw; (try dsimp only at hSw); go_simp; try with_reducible rfl)
  try simp only [Act.put, List.setIfInBounds_toArray, List.set_cons_zero, List.set_cons_succ]
  refine wpAnyH_ready (rs := [12]) (by kernel_rfl) (by simp) ?_
  refine AllReadyH.cons (o := _) rfl (fun K hK => ?_) AllReadyH.nil
  obtain ⟨⟨x13, y13⟩, z13⟩ := (show OwnB w7.drew B g 20 20 from O7.out).cell (i := 13) (by omega)
  go_simp
  obtain ⟨w8, hw8⟩ : ∃ w8, w8 = (w7.setCell ⟨g, 13, none⟩ (.int .u8 t.fl)).drew := ⟨_, rfl⟩
  obtain ⟨oa, qa⟩ := O7.out.set 13 (x := t.fl) hfl0 hfl1
  have O8 : Hid (OwnB w8 B g 20 20) := Lib.hid (by rw [hw8]; exact oa)
  have BT8 : BlkV w8 w.heap.size 29 [.int .i64 t.sp, .int .i64 t.dp, .int .u32 t.sq, .int .u32 t.ak, .int .i64 t.fl, .int .i64 t.wi, .int .i64 t.ur, .slice none 0 0, .slice none 0 0] := by
    have h := BT7.grown qa (show w.heap.size ≠ g by omega)
    rw [hw8]
    exact h
  have Q8 : Hid (W2.grownBy w8 (some g)) := Lib.hid (by rw [hw8]; exact grown_drewN (grown_trans Q7.out qa) 1)
  rw [← hw8]
  clear hw8 oa qa y13 z13 BT7 O7 Q7 hw1 hw2 hw3 hw4
  refine hK.out _ _ (KC.out _ BT8) (fun hHeld => ?_)
  clear hK K
  try simp only [Act.put, List.setIfInBounds_toArray, List.set_cons_zero, List.set_cons_succ]
  refine wpAnyH_done (by kernel_rfl) ?_ _
  clear hHeld
  go_upto_region 11 with fail
  refine wp_region_held_drew (S := fun w' => (w'.cell? ⟨w.heap.size, 0, none⟩ = some (.int .i64 t.sp) ∧ w'.cell? ⟨w.heap.size, 1, none⟩ = some (.int .i64 t.dp) ∧ w'.cell? ⟨w.heap.size, 2, none⟩ = some (.int .u32 t.sq) ∧ w'.cell? ⟨w.heap.size, 3, none⟩ = some (.int .u32 t.ak) ∧ w'.cell? ⟨w.heap.size, 4, none⟩ = some (.int .i64 t.fl) ∧ w'.cell? ⟨w.heap.size, 5, none⟩ = some (.int .i64 t.wi) ∧ w'.cell? ⟨w.heap.size, 6, none⟩ = some (.int .i64 t.ur) ∧ w'.cell? ⟨w.heap.size, 7, none⟩ = some (.slice none 0 0) ∧ w'.cell? ⟨w.heap.size, 8, none⟩ = some (.slice none 0 0))) (by kernel_rfl) (KC.out _ (show BlkV w8.drew _ _ _ from BT8)) (fun hHeld => ?_)
  refine wpAnyH_takeD (i := 0) (some 103) (v := ?_) rfl rfl (by kernel_rfl) (by kernel_rfl) (by kernel_rfl) (fun _ _ _ h => h) (Or.inl ⟨by rfl, ?_⟩) (by assumption) ?_
  rotate_left
  · (intro w hSw; (try dsimp only at hSw); go_simp; try with_reducible rfl)
  try simp only [Act.put, List.setIfInBounds_toArray, List.set_cons_zero, List.set_cons_succ]
  refine wpAnyH_takeD (i := 1) (some 104) (v := ?_) rfl rfl (by kernel_rfl) (by kernel_rfl) (by kernel_rfl) (fun _ _ _ h => h) (Or.inl ⟨by rfl, ?_⟩) (by assumption) ?_
  rotate_left
  · (intro w hSw; (try dsimp only at hSw); go_simp; try with_reducible rfl)
  try simp only [Act.put, List.setIfInBounds_toArray, List.set_cons_zero, List.set_cons_succ]
  refine wpAnyH_takeD (i := 2) (some 105) (v := ?_) rfl rfl (by kernel_rfl) (by kernel_rfl) (by kernel_rfl) (fun _ _ _ h => h) (Or.inl ⟨by rfl, ?_⟩) (by assumption) ?_
  rotate_left
  · (intro w hSw; (try dsimp only at hSw); go_simp; try with_reducible rfl)
  try simp only [Act.put, List.setIfInBounds_toArray, List.set_cons_zero, List.set_cons_succ]
  refine wpAnyH_takeD (i := 3) (some 106) (v := ?_) rfl rfl (by kernel_rfl) (by kernel_rfl) (by kernel_rfl) (fun _ _ _ h => h) (Or.inl ⟨by rfl, ?_⟩) (by assumption) ?_
  rotate_left
  · (intro w hSw; (try dsimp only at hSw); go_simp; try with_reducible rfl)
  try simp only [Act.put, List.setIfInBounds_toArray, List.set_cons_zero, List.set_cons_succ]
  refine wpAnyH_ready (rs := [4]) (by kernel_rfl) (by simp) ?_
  refine AllReadyH.cons (o := _) rfl (fun K hK => ?_) AllReadyH.nil
  go_simp
  refine (HH.out 14 _ _ _ w8.drew O8.out (by omega) (by omega)).mono ?_
  rintro e w9 ⟨rfl, o9, q9⟩
  have O9 := Lib.hid o9
  have Q9 := Lib.hid (grown_trans Q8.out (grown_trans (grown_drewN (grown_refl w8 (some g)) 1) q9))
  have BT9 := (show BlkV w8.drew _ _ _ from BT8).grown q9 (by omega)
  clear o9 q9 O8 Q8 BT8
  go_wp2_with fail
  refine hK.out _ _ (KC.out _ BT9) (fun hHeld => ?_)
  clear hK K
  try simp only [Act.put, List.setIfInBounds_toArray, List.set_cons_zero, List.set_cons_succ]
  refine wpAnyH_done (by kernel_rfl) ?_ _
  clear hHeld
  go_upto_region 12 with fail
  refine wp_region_held_drew (S := fun w' => (w'.cell? ⟨w.heap.size, 0, none⟩ = some (.int .i64 t.sp) ∧ w'.cell? ⟨w.heap.size, 1, none⟩ = some (.int .i64 t.dp) ∧ w'.cell? ⟨w.heap.size, 2, none⟩ = some (.int .u32 t.sq) ∧ w'.cell? ⟨w.heap.size, 3, none⟩ = some (.int .u32 t.ak) ∧ w'.cell? ⟨w.heap.size, 4, none⟩ = some (.int .i64 t.fl) ∧ w'.cell? ⟨w.heap.size, 5, none⟩ = some (.int .i64 t.wi) ∧ w'.cell? ⟨w.heap.size, 6, none⟩ = some (.int .i64 t.ur) ∧ w'.cell? ⟨w.heap.size, 7, none⟩ = some (.slice none 0 0) ∧ w'.cell? ⟨w.heap.size, 8, none⟩ = some (.slice none 0 0))) (by kernel_rfl) (KC.out _ (show BlkV w9.drew _ _ _ from BT9)) (fun hHeld => ?_)
  refine wpAnyH_takeD (i := 0) (some 108) (v := ?_) rfl rfl (by kernel_rfl) (by kernel_rfl) (by kernel_rfl) (fun _ _ _ h => h) (Or.inl ⟨by rfl, ?_⟩) (by assumption) ?_
  rotate_left
  · (intro w hSw; (try dsimp only at hSw); go_simp; try with_reducible rfl)
  try simp only [Act.put, List.setIfInBounds_toArray, List.set_cons_zero, List.set_cons_succ]
  refine wpAnyH_takeD (i := 1) (some 109) (v := ?_) rfl rfl (by kernel_rfl) (by kernel_rfl) (by kernel_rfl) (fun _ _ _ h => h) (Or.inl ⟨by rfl, ?_⟩) (by assumption) ?_
  rotate_left
  · (intro w hSw; (try dsimp only at hSw); go_simp; try with_reducible rfl)
  try simp only [Act.put, List.setIfInBounds_toArray, List.set_cons_zero, List.set_cons_succ]
  refine wpAnyH_takeD (i := 2) (some 110) (v := ?_) rfl rfl (by kernel_rfl) (by kernel_rfl) (by kernel_rfl) (fun _ _ _ h => h) (Or.inl ⟨by rfl, ?_⟩) (by assumption) ?_
  rotate_left
  · (intro w hSw; (try dsimp only at hSw); go_simp; try with_reducible rfl)
  try simp only [Act.put, List.setIfInBounds_toArray, List.set_cons_zero, List.set_cons_succ]
  refine wpAnyH_takeD (i := 3) (some 111) (v := ?_) rfl rfl (by kernel_rfl) (by kernel_rfl) (by kernel_rfl) (fun _ _ _ h => h) (Or.inl ⟨by rfl, ?_⟩) (by assumption) ?_
  rotate_left
  · (intro w hSw; (try dsimp only at hSw); go_simp; try with_reducible rfl)
  try simp only [Act.put, List.setIfInBounds_toArray, List.set_cons_zero, List.set_cons_succ]
  refine wpAnyH_ready (rs := [4]) (by kernel_rfl) (by simp) ?_
  refine AllReadyH.cons (o := _) rfl (fun K hK => ?_) AllReadyH.nil
  go_simp
  refine (HH.out 18 _ _ _ w9.drew O9.out (by omega) (by omega)).mono ?_
  rintro e w10 ⟨rfl, o10, q10⟩
  have O10 := Lib.hid o10
  have Q10 := Lib.hid (grown_trans Q9.out (grown_trans (grown_drewN (grown_refl w9 (some g)) 1) q10))
  have BT10 := (show BlkV w9.drew _ _ _ from BT9).grown q10 (by omega)
  clear o10 q10 O9 Q9 BT9
  go_wp2_with fail
  refine hK.out _ _ (KC.out _ BT10) (fun hHeld => ?_)
  clear hK K
  try simp only [Act.put, List.setIfInBounds_toArray, List.set_cons_zero, List.set_cons_succ]
  refine wpAnyH_done (by kernel_rfl) ?_ _
  clear hHeld
  have hb10 : Below w.heap.size w w10 := below_by hb2 Q10.out (fun k hk => by injection hk with hk; omega) hb2.size
  have c7 := BT10.cell (i := 7) rfl
  have HB10 := Lib.hid hb10
  clear hb10 HH HWH
  go_upto_region 14 with fail
  go_wp2_with fail
  clear c7
  go_loopg [12, 14, 118] 2 (fun gg s12 _ s118 wx => 0 < gg ∧ s118 = .int .i64 0 ∧ Hid (OwnB wx B g 20 20) ∧ Hid (W2.grownBy wx (some g)) ∧ BlkV wx w.heap.size 29 [.int .i64 t.sp, .int .i64 t.dp, .int .u32 t.sq, .int .u32 t.ak, .int .i64 t.fl, .int .i64 t.wi, .int .i64 t.ur, .slice none 0 0, .slice none 0 0])
  case atStart => exact ⟨by omega, rfl, O10, Q10, BT10⟩
  case round =>
    obtain ⟨hg, rfl, OX, QX, BTx⟩ := hrel
    · have c8 := BTx.cell (i := 8) rfl
      obtain ⟨l, hB, ho⟩ := OX.out
      have HBL : Hid (Below w1.heap.size w1 wr) := Lib.hid (below_by hb20.out QX.out (fun k hk => by injection hk with hk; have := HBB.out; omega) hb20.out.size)
      have HSUM := Lib.hid (tcp_sum (some ⟨g, 0, none⟩) 20 20 l 1 2 wr.drew (Rd.of_own (show wr.drew.ownsRow B 5 1 _ 20 (bs l) from ho)) hB (by decide) (by decide) (by decide) (by decide) (by decide))
      have HH2 := Lib.hid (fun (v : Int) => tcp_half g 16 20 20 (20 - 16) (20 - 16) v B wr.drew OX.out (by decide) (by decide))
      clear hB ho
      go_upto_region 20 with fail
      refine wp_region_held_drew (S := fun _ => True) (by kernel_rfl) trivial (fun hHeld => ?_)
      refine wpAnyH_takeD (i := 0) (some 141) (v := ?_) rfl rfl (by kernel_rfl) (by kernel_rfl) (by kernel_rfl) (fun _ _ _ h => h) (Or.inl ⟨by rfl, ?_⟩) (by assumption) ?_
      rotate_left
      · (intro w hSw; (try dsimp only at hSw); go_simp; try with_reducible rfl)
      try simp only [Act.put, List.setIfInBounds_toArray, List.set_cons_zero, List.set_cons_succ]
      refine wpAnyH_takeD (i := 1) (some 142) (v := ?_) rfl rfl (by kernel_rfl) (by kernel_rfl) (by kernel_rfl) (fun _ _ _ h => h) (Or.inl ⟨by rfl, ?_⟩) (by assumption) ?_
      rotate_left
      · (intro w hSw; (try dsimp only at hSw); go_simp; try with_reducible rfl)
      try simp only [Act.put, List.setIfInBounds_toArray, List.set_cons_zero, List.set_cons_succ]
      refine wpAnyH_takeD (i := 2) (some 143) (v := ?_) rfl rfl (by kernel_rfl) (by kernel_rfl) (by kernel_rfl) (fun _ _ _ h => h) (Or.inl ⟨by rfl, ?_⟩) (by assumption) ?_
      rotate_left
      · (intro w hSw; (try dsimp only at hSw); go_simp; try with_reducible rfl)
      try simp only [Act.put, List.setIfInBounds_toArray, List.set_cons_zero, List.set_cons_succ]
      refine wpAnyH_takeD (i := 3) (some 144) (v := ?_) rfl rfl (by kernel_rfl) (by kernel_rfl) (by kernel_rfl) (fun _ _ _ h => h) (Or.inl ⟨by rfl, ?_⟩) (by assumption) ?_
      rotate_left
      · (intro w hSw; (try dsimp only at hSw); go_simp; try with_reducible rfl)
      try simp only [Act.put, List.setIfInBounds_toArray, List.set_cons_zero, List.set_cons_succ]
      refine wpAnyH_takeD (i := 4) (some 145) (v := ?_) rfl rfl (by kernel_rfl) (by kernel_rfl) (by kernel_rfl) (fun _ _ _ h => h) (Or.inl ⟨by rfl, ?_⟩) (by assumption) ?_
      rotate_left
      · (intro w hSw; (try dsimp only at hSw); go_simp; try with_reducible rfl)
      try simp only [Act.put, List.setIfInBounds_toArray, List.set_cons_zero, List.set_cons_succ]
      refine wpAnyH_ready (rs := [5]) (by kernel_rfl) (by simp) ?_
      refine AllReadyH.cons (o := _) rfl (fun K hK => ?_) AllReadyH.nil
      go_simp
      refine HSUM.out.mono ?_
      rintro e wk ⟨⟨r, hr0, hr1, rfl⟩, rfl⟩
      go_wp2_with fail
      refine hK.out _ _ trivial (fun hHeld => ?_)
      clear hK K
      try simp only [Act.put, List.setIfInBounds_toArray, List.set_cons_zero, List.set_cons_succ]
      refine wpAnyH_takeD (i := 6) (some 147) (v := ?_) rfl rfl (by kernel_rfl) (by kernel_rfl) (by kernel_rfl) (fun _ _ _ h => h) (Or.inl ⟨by rfl, ?_⟩) (by assumption) ?_
      rotate_left
      · (intro w hSw; (try dsimp only at hSw); go_simp; try with_reducible rfl)
      try simp only [Act.put, List.setIfInBounds_toArray, List.set_cons_zero, List.set_cons_succ]
      refine wpAnyH_takeD (i := 7) (some 148) (v := ?_) rfl rfl (by kernel_rfl) (by kernel_rfl) (by kernel_rfl) (fun _ _ _ h => h) (Or.inl ⟨by rfl, ?_⟩) (by assumption) ?_
      rotate_left
      · (intro w hSw; (try dsimp only at hSw); go_simp; try with_reducible rfl)
      try simp only [Act.put, List.setIfInBounds_toArray, List.set_cons_zero, List.set_cons_succ]
      refine wpAnyH_ready (rs := [8]) (by kernel_rfl) (by simp) ?_
      refine AllReadyH.cons (o := _) rfl (fun K hK => ?_) AllReadyH.nil
      go_simp
      refine (HH2.out _).mono ?_
      rintro e w12 ⟨rfl, o12, q12⟩
      have HB12 := Lib.hid (below_by (bel_d HBL.out) q12 (fun k hk => by injection hk with hk; have := HBB.out; omega) HBL.out.size)
      clear o12 q12
      go_wp2_with fail
      refine hK.out _ _ trivial (fun hHeld => ?_)
      clear hK K
      try simp only [Act.put, List.setIfInBounds_toArray, List.set_cons_zero, List.set_cons_succ]
      refine wpAnyH_done (by kernel_rfl) ?_ _
      clear hHeld
      go_wp2_with fail
      go_ret2
      exact ⟨⟨_, rfl⟩, bel_then hbw1 HB12.out⟩
end Go.Proofs.YtpidpbjbgjkaaaaDoor
