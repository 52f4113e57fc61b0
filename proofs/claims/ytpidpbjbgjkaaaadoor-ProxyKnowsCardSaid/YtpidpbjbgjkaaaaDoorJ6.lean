/- The walks of proxy.Ask and of its reference, where they ask. The walks of proxy.Ask and of its reference, where they refuse. -/
import Derived.Test.YtpidpbjbgjkaaaaDoorJ5
namespace Go.Proofs.YtpidpbjbgjkaaaaDoor
open Go.RowKit
set_option maxRecDepth 8000
set_option linter.unusedVariables false
set_option linter.unusedSimpArgs false
def Tcp.askT (t : Tcp.T) (m : Int) (q : Nat) : Tcp.T := ⟨t.sp, t.dp, Seq.step t.sq (-1), 0, 2, t.wi, 0, some ⟨q + 1, 0, none⟩, 1, 1, none, 0, 0, [Prox.mssO q m], []⟩
def Prox.askC (t : Prox.C) (m : Int) : Prox.C := ⟨t.sp, t.dp, Seq.step t.sq (-1), 0, 2, t.wi, 0, [(2, [m / 256, m % 256])], []⟩
theorem tcp_ask_ok {t : Tcp.T} {m : Int} {q : Nat} {w : World} (hw : -9223372036854775808 ≤ t.wi ∧ t.wi ≤ 9223372036854775807) (ho : Tcp.OptsRd w (some ⟨q + 1, 0, none⟩) 1 [Prox.mssO q m]) : (Tcp.askT t m q).ok w :=
  ⟨(by simp only [Tcp.askT, Seq.step]; omega), (by simp only [Tcp.askT]; omega), (by simp only [Tcp.askT]; omega), hw, ho, (by simp only [Tcp.askT]; omega), (by simp only [Tcp.askT]; omega), ⟨rfl, fun h => absurd h (by simp [Tcp.askT])⟩, fun x h => (by cases h), (by simp only [Tcp.askT]; omega), (by simp only [Tcp.askT]; omega)⟩
set_option maxHeartbeats 8000000 in
theorem pask_ok (t : Tcp.T) (m : Int) (w : World) (hw : -9223372036854775808 ≤ t.wi ∧ t.wi ≤ 9223372036854775807) (h0 : 0 ≤ m) (h1 : m ≤ 65535) (h : (Go.bits .and .i64 t.fl 23 == 16) = true) :
    Calls Tryd.prog 13 #[.agg #[.int .i64 t.sp, .int .i64 t.dp, .int .u32 t.sq, .int .u32 t.ak, .int .i64 t.fl, .int .i64 t.wi, .int .i64 t.ur, .slice t.Ao t.no t.co, .slice t.Ab t.nb t.cb], .int .i64 m] w (SegR (some (Prox.askC t.con m)) 0 w) := by
  obtain ⟨W, hW⟩ : ∃ W, W = (w.alloc (.cells #[.int .i64 t.sp, .int .i64 t.dp, .int .u32 t.sq, .int .u32 t.ak, .int .i64 t.fl, .int .i64 t.wi, .int .i64 t.ur, .slice t.Ao t.no t.co, .slice t.Ab t.nb t.cb] 29)).alloc (.cells #[.int .i64 0, .int .i64 0, .int .u32 0, .int .u32 0, .int .i64 0, .int .i64 0, .int .i64 0, .slice none 0 0, .slice none 0 0] 29) := ⟨_, rfl⟩
  have hbW : Below w.heap.size w W := by rw [hW]; exact ((Below.refl _ _).alloc (Nat.le_refl _) _).alloc (by simp) _
  have hWs : w.heap.size + 1 < W.heap.size := by rw [hW]; simp
  have B0 : BlkV W w.heap.size 29 [.int .i64 t.sp, .int .i64 t.dp, .int .u32 t.sq, .int .u32 t.ak, .int .i64 t.fl, .int .i64 t.wi, .int .i64 t.ur, .slice t.Ao t.no t.co, .slice t.Ab t.nb t.cb] := by rw [hW]; exact (BlkV.new w _ _).alloc _
  have B3 : BlkV W (w.heap.size + 1) 29 [.int .i64 0, .int .i64 0, .int .u32 0, .int .u32 0, .int .i64 0, .int .i64 0, .int .i64 0, .slice none 0 0, .slice none 0 0] := by rw [hW]; exact BlkV.new_at (w.alloc (.cells #[.int .i64 t.sp, .int .i64 t.dp, .int .u32 t.sq, .int .u32 t.ak, .int .i64 t.fl, .int .i64 t.wi, .int .i64 t.ur, .slice t.Ao t.no t.co, .slice t.Ab t.nb t.cb] 29)) _ _ (by simp)
  have HW1 := Lib.hid (fun w => pwords_spec t w)
  have hne : (Go.bits .and .i64 t.fl 23 != 16) = false := by rw [bne, h]; rfl
  obtain ⟨x, hx⟩ : ∃ x, Go.bits .and .i64 t.fl 23 = x := ⟨_, rfl⟩
  rw [hx] at HW1 hne
  have HS := Lib.hid (fun w => seq_step t.sq (-1) w)
  have HZ := Lib.hid (fun w => psize_spec m h0 h1 w)
  go_enter Tryd.func13, Tryd.ntmps13
  go_upto_region 1 with (fail)
  rw [← hW]
  clear hW
  go_wp2_with (refine wpList_ldB 29 _ _ (by with_reducible rfl) rfl (by rfl) B0 Tryd.underlying29 rfl (tcp_size (by rfl)) ?_)
  refine (HW1.out W).mono ?_
  rintro e w1 ⟨rfl, hb1⟩
  have B0a := B0.below hb1
  have B3a := B3.below hb1
  have hbw1 := bel_then hbW hb1
  have hs1 := hb1.size
  clear B0 B3 HW1 h hx
  have KB : Hid (∀ w' : World, Below w1.heap.size w1 w' → (w'.cell? ⟨w.heap.size, 0, none⟩ = some (.int .i64 t.sp) ∧ w'.cell? ⟨w.heap.size, 1, none⟩ = some (.int .i64 t.dp) ∧ w'.cell? ⟨w.heap.size, 2, none⟩ = some (.int .u32 t.sq) ∧ w'.cell? ⟨w.heap.size, 5, none⟩ = some (.int .i64 t.wi))) := Lib.hid fun w' hb => ⟨(B0a.below hb).cell rfl, (B0a.below hb).cell rfl, (B0a.below hb).cell rfl, (B0a.below hb).cell rfl⟩
  have hm0 : ¬ m < 0 := by omega
  have hm1 : ¬ 65535 < m := by omega
  go_upto_region 5 with (fail)
  refine wp_region_held_drew (S := fun w' => (w'.cell? ⟨w.heap.size, 0, none⟩ = some (.int .i64 t.sp) ∧ w'.cell? ⟨w.heap.size, 1, none⟩ = some (.int .i64 t.dp) ∧ w'.cell? ⟨w.heap.size, 2, none⟩ = some (.int .u32 t.sq) ∧ w'.cell? ⟨w.heap.size, 5, none⟩ = some (.int .i64 t.wi))) (by kernel_rfl) (KB.out _ (bel_d (Below.refl _ _))) (fun hHeld => ?_)
  refine wpAnyH_takeD (i := 0) (some 19) (v := ?_) rfl rfl (by kernel_rfl) (by kernel_rfl) (by kernel_rfl) (fun _ _ _ h => h) (Or.inl ⟨by rfl, ?_⟩) (by assumption) ?_
  rotate_left
  · (intro w hSw; (try dsimp only at hSw); go_simp; try with_reducible rfl)
  try simp only [Act.put, List.setIfInBounds_toArray, List.set_cons_zero, List.set_cons_succ]
  refine wpAnyH_takeD (i := 1) (some 20) (v := ?_) rfl rfl (by kernel_rfl) (by kernel_rfl) (by kernel_rfl) (fun _ _ _ h => h) (Or.inl ⟨by rfl, ?_⟩) (by assumption) ?_
  rotate_left
  · (intro w hSw; (try dsimp only at hSw); go_simp; try with_reducible rfl)
  try simp only [Act.put, List.setIfInBounds_toArray, List.set_cons_zero, List.set_cons_succ]
  refine wpAnyH_takeD (i := 2) (some 21) (v := ?_) rfl rfl (by kernel_rfl) (by kernel_rfl) (by kernel_rfl) (fun _ _ _ h => h) (Or.inl ⟨by rfl, ?_⟩) (by assumption) ?_
  rotate_left
  · (intro w hSw; (try dsimp only at hSw); go_simp; try with_reducible rfl)
  try simp only [Act.put, List.setIfInBounds_toArray, List.set_cons_zero, List.set_cons_succ]
  refine wpAnyH_takeD (i := 3) (some 22) (v := ?_) rfl rfl (by kernel_rfl) (by kernel_rfl) (by kernel_rfl) (fun _ _ _ h => h) (Or.inl ⟨by rfl, ?_⟩) (by assumption) ?_
  rotate_left
  · (intro w hSw; (try dsimp only at hSw); go_simp; try with_reducible rfl)
  try simp only [Act.put, List.setIfInBounds_toArray, List.set_cons_zero, List.set_cons_succ]
  refine wpAnyH_takeD (i := 4) (some 23) (v := ?_) rfl rfl (by kernel_rfl) (by kernel_rfl) (by kernel_rfl) (fun _ _ _ h => h) (Or.inl ⟨by rfl, ?_⟩) (by assumption) ?_
  rotate_left
  · (intro w hSw; (try dsimp only at hSw); go_simp; try with_reducible rfl)
  try simp only [Act.put, List.setIfInBounds_toArray, List.set_cons_zero, List.set_cons_succ]
  refine wpAnyH_takeD (i := 5) (some 24) (v := ?_) rfl rfl (by kernel_rfl) (by kernel_rfl) (by kernel_rfl) (fun _ _ _ h => h) (Or.inl ⟨by rfl, ?_⟩) (by assumption) ?_
  rotate_left
  · (intro w hSw; (try dsimp only at hSw); go_simp; try with_reducible rfl)
  try simp only [Act.put, List.setIfInBounds_toArray, List.set_cons_zero, List.set_cons_succ]
  refine wpAnyH_takeD (i := 7) (some 26) (v := ?_) rfl rfl (by kernel_rfl) (by kernel_rfl) (by kernel_rfl) (fun _ _ _ h => h) (Or.inl ⟨by rfl, ?_⟩) (by assumption) ?_
  rotate_left
  · (intro w hSw; (try dsimp only at hSw); go_simp; try with_reducible rfl)
  try simp only [Act.put, List.setIfInBounds_toArray, List.set_cons_zero, List.set_cons_succ]
  refine wpAnyH_takeD (i := 8) (some 27) (v := ?_) rfl rfl (by kernel_rfl) (by kernel_rfl) (by kernel_rfl) (fun _ _ _ h => h) (Or.inl ⟨by rfl, ?_⟩) (by assumption) ?_
  rotate_left
  · (intro w hSw; (try dsimp only at hSw); go_simp; try with_reducible rfl)
  try simp only [Act.put, List.setIfInBounds_toArray, List.set_cons_zero, List.set_cons_succ]
  refine wpAnyH_takeD (i := 9) (some 28) (v := ?_) rfl rfl (by kernel_rfl) (by kernel_rfl) (by kernel_rfl) (fun _ _ _ h => h) (Or.inl ⟨by rfl, ?_⟩) (by assumption) ?_
  rotate_left
  · (intro w hSw; (try dsimp only at hSw); go_simp; try with_reducible rfl)
  try simp only [Act.put, List.setIfInBounds_toArray, List.set_cons_zero, List.set_cons_succ]
  refine wpAnyH_ready (rs := [6]) (by kernel_rfl) (by simp) ?_
  refine AllReadyH.cons (o := _) rfl (fun K hK => ?_) AllReadyH.nil
  go_simp
  refine (HS.out _).mono ?_
  rintro e wx ⟨rfl, rfl⟩
  go_wp2_with fail
  refine hK.out _ _ (KB.out _ (bel_d (Below.refl _ _))) (fun hHeld => ?_)
  clear hK K
  try simp only [Act.put, List.setIfInBounds_toArray, List.set_cons_zero, List.set_cons_succ]
  refine wpAnyH_ready (rs := [10]) (by kernel_rfl) (by simp) ?_
  refine AllReadyH.cons (o := _) rfl (fun K hK => ?_) AllReadyH.nil
  go_simp
  refine (HZ.out _).mono ?_
  rintro e wz ⟨rfl, hbz, hoz⟩
  have hbz' := bel_then (bel_d (Below.refl w1.heap.size w1)) hbz
  go_wp2_with fail
  refine hK.out _ _ (KB.out _ hbz') (fun hHeld => ?_)
  clear hK K
  try simp only [Act.put, List.setIfInBounds_toArray, List.set_cons_zero, List.set_cons_succ]
  refine wpAnyH_takeD (i := 11) (some 30) (v := ?_) rfl rfl (by kernel_rfl) (by kernel_rfl) (by kernel_rfl) (fun _ _ _ h => h) (Or.inl ⟨by rfl, ?_⟩) (by assumption) ?_
  rotate_left
  · (intro w hSw; (try dsimp only at hSw); go_simp; try with_reducible rfl)
  try simp only [Act.put, List.setIfInBounds_toArray, List.set_cons_zero, List.set_cons_succ]
  refine wpAnyH_ready (rs := [12]) (by kernel_rfl) (by simp) ?_
  refine AllReadyH.cons (o := _) rfl (fun K hK => ?_) AllReadyH.nil
  rw [if_pos (by rfl)]
  have B3z := B3a.below hbz'
  refine wp_stB 29 _ _ rfl (by rfl) (by rfl) _ (by rfl) B3z (by rfl) (tcp_size (by rfl)) (by rfl) ?_
  intro wM BM hM
  have B0z := (B0a.below hbz').only hM (by omega)
  have hWs' := hWs
  refine hK.out _ _ ⟨B0z.cell rfl, B0z.cell rfl, B0z.cell rfl, B0z.cell rfl⟩ (fun hHeld => ?_)
  clear hK K
  try simp only [Act.put, List.setIfInBounds_toArray, List.set_cons_zero, List.set_cons_succ]
  refine wpAnyH_takeD (i := 13) (some 5) (v := ?_) rfl rfl (by kernel_rfl) (by kernel_rfl) (by kernel_rfl) (fun _ _ _ h => h) (Or.inl ⟨by rfl, ?_⟩) (by assumption) ?_
  rotate_left
  · (intro w hSw; (try dsimp only at hSw); go_simp; try with_reducible rfl)
  try simp only [Act.put, List.setIfInBounds_toArray, List.set_cons_zero, List.set_cons_succ]
  refine wpAnyH_done (by kernel_rfl) ?_ _
  obtain ⟨t0, t1, t2, t3, t4, t5, t6, t7, t8⟩ := cells9' BM
  go_wp2_with fail
  exact bodyPost_ret (v := .tuple #[.agg #[.int .i64 t.sp, .int .i64 t.dp, .int .u32 (Seq.step t.sq (-1)), .int .u32 0, .int .i64 2, .int .i64 t.wi, .int .i64 0, .slice (some ⟨w1.heap.size + 1, 0, none⟩) 1 1, .slice none 0 0], .int .i64 0]) (by simp [results, Tryd.results13, go_sem, t0, t1, t2, t3, t4, t5, t6, t7, t8]) rfl ⟨hM.bel (by omega) (bel_then hbw1 hbz'), Tcp.askT t m w1.heap.size, rfl, fun w' hs' hk' => tcp_ask_ok hw (mss_fr (mss_only hoz hM (by show w1.heap.size ≠ _; omega) (by show w1.heap.size + 1 ≠ _; omega)) (show w.heap.size ≤ w1.heap.size from hbw1.size) hs' hk'), fun c' hc => (by injection hc), ⟨.inr ⟨_, _, rfl, rfl, rfl, rfl⟩, rfl, rfl, rfl⟩⟩
set_option maxHeartbeats 8000000 in
theorem rask_ok (t : Tcp.T) (m : Int) (w : World) (hw : -9223372036854775808 ≤ t.wi ∧ t.wi ≤ 9223372036854775807) (h0 : 0 ≤ m) (h1 : m ≤ 65535) (hsq : 0 ≤ t.sq ∧ t.sq ≤ 4294967295) (h : (Go.bits .and .i64 t.fl 23 == 16) = true) :
    Calls Tryd.prog 14 #[.agg #[.int .i64 t.sp, .int .i64 t.dp, .int .u32 t.sq, .int .u32 t.ak, .int .i64 t.fl, .int .i64 t.wi, .int .i64 t.ur, .slice t.Ao t.no t.co, .slice t.Ab t.nb t.cb], .int .i64 m] w (SegR (some (Prox.askC t.con m)) 0 w) := by
  obtain ⟨W, hW⟩ : ∃ W, W = (w.alloc (.cells #[.int .i64 t.sp, .int .i64 t.dp, .int .u32 t.sq, .int .u32 t.ak, .int .i64 t.fl, .int .i64 t.wi, .int .i64 t.ur, .slice t.Ao t.no t.co, .slice t.Ab t.nb t.cb] 29)).alloc (.cells #[.int .i64 0, .int .i64 0, .int .u32 0, .int .u32 0, .int .i64 0, .int .i64 0, .int .i64 0, .slice none 0 0, .slice none 0 0] 29) := ⟨_, rfl⟩
  have hbW : Below w.heap.size w W := by rw [hW]; exact ((Below.refl _ _).alloc (Nat.le_refl _) _).alloc (by simp) _
  have hWs : w.heap.size + 1 < W.heap.size := by rw [hW]; simp
  have B0 : BlkV W w.heap.size 29 [.int .i64 t.sp, .int .i64 t.dp, .int .u32 t.sq, .int .u32 t.ak, .int .i64 t.fl, .int .i64 t.wi, .int .i64 t.ur, .slice t.Ao t.no t.co, .slice t.Ab t.nb t.cb] := by rw [hW]; exact (BlkV.new w _ _).alloc _
  have B3 : BlkV W (w.heap.size + 1) 29 [.int .i64 0, .int .i64 0, .int .u32 0, .int .u32 0, .int .i64 0, .int .i64 0, .int .i64 0, .slice none 0 0, .slice none 0 0] := by rw [hW]; exact BlkV.new_at (w.alloc (.cells #[.int .i64 t.sp, .int .i64 t.dp, .int .u32 t.sq, .int .u32 t.ak, .int .i64 t.fl, .int .i64 t.wi, .int .i64 t.ur, .slice t.Ao t.no t.co, .slice t.Ab t.nb t.cb] 29)) _ _ (by simp)
  have HW1 := Lib.hid (fun w => rflags_spec t false true w)
  rw [show Prox.wd false true = 16 from rfl, h] at HW1
  have HS := Lib.hid (fun w => ron_spec t.sq 4294967295 w hsq.1 hsq.2 (by decide) (by decide))
  have hst : (t.sq + 4294967295) % 4294967296 = Seq.step t.sq (-1) := by (simp only [Seq.step]; omega)
  simp only [hst] at HS
  have HZ := Lib.hid (fun w => rmss_spec m h0 h1 w)
  go_enter Tryd.func14, Tryd.ntmps14
  go_upto_region 1 with (fail)
  rw [← hW]
  clear hW
  go_wp2_with (refine wpList_ldB 29 _ _ (by with_reducible rfl) rfl (by rfl) B0 Tryd.underlying29 rfl (tcp_size (by rfl)) ?_)
  refine (HW1.out W).mono ?_
  rintro e w1 ⟨rfl, hb1⟩
  have B0a := B0.below hb1
  have B3a := B3.below hb1
  have hbw1 := bel_then hbW hb1
  have hs1 := hb1.size
  clear B0 B3 HW1 h
  have KB : Hid (∀ w' : World, Below w1.heap.size w1 w' → (w'.cell? ⟨w.heap.size, 0, none⟩ = some (.int .i64 t.sp) ∧ w'.cell? ⟨w.heap.size, 1, none⟩ = some (.int .i64 t.dp) ∧ w'.cell? ⟨w.heap.size, 2, none⟩ = some (.int .u32 t.sq) ∧ w'.cell? ⟨w.heap.size, 5, none⟩ = some (.int .i64 t.wi))) := Lib.hid fun w' hb => ⟨(B0a.below hb).cell rfl, (B0a.below hb).cell rfl, (B0a.below hb).cell rfl, (B0a.below hb).cell rfl⟩
  have hm0 : ¬ m < 0 := by omega
  have hm1 : ¬ 65535 < m := by omega
  go_upto_region 5 with (fail)
  refine wp_region_held_drew (S := fun w' => (w'.cell? ⟨w.heap.size, 0, none⟩ = some (.int .i64 t.sp) ∧ w'.cell? ⟨w.heap.size, 1, none⟩ = some (.int .i64 t.dp) ∧ w'.cell? ⟨w.heap.size, 2, none⟩ = some (.int .u32 t.sq) ∧ w'.cell? ⟨w.heap.size, 5, none⟩ = some (.int .i64 t.wi))) (by kernel_rfl) (KB.out _ (bel_d (Below.refl _ _))) (fun hHeld => ?_)
  refine wpAnyH_takeD (i := 0) (some 17) (v := ?_) rfl rfl (by kernel_rfl) (by kernel_rfl) (by kernel_rfl) (fun _ _ _ h => h) (Or.inl ⟨by rfl, ?_⟩) (by assumption) ?_
  rotate_left
  · (intro w hSw; (try dsimp only at hSw); go_simp; try with_reducible rfl)
  try simp only [Act.put, List.setIfInBounds_toArray, List.set_cons_zero, List.set_cons_succ]
  refine wpAnyH_takeD (i := 1) (some 18) (v := ?_) rfl rfl (by kernel_rfl) (by kernel_rfl) (by kernel_rfl) (fun _ _ _ h => h) (Or.inl ⟨by rfl, ?_⟩) (by assumption) ?_
  rotate_left
  · (intro w hSw; (try dsimp only at hSw); go_simp; try with_reducible rfl)
  try simp only [Act.put, List.setIfInBounds_toArray, List.set_cons_zero, List.set_cons_succ]
  refine wpAnyH_takeD (i := 2) (some 19) (v := ?_) rfl rfl (by kernel_rfl) (by kernel_rfl) (by kernel_rfl) (fun _ _ _ h => h) (Or.inl ⟨by rfl, ?_⟩) (by assumption) ?_
  rotate_left
  · (intro w hSw; (try dsimp only at hSw); go_simp; try with_reducible rfl)
  try simp only [Act.put, List.setIfInBounds_toArray, List.set_cons_zero, List.set_cons_succ]
  refine wpAnyH_takeD (i := 3) (some 20) (v := ?_) rfl rfl (by kernel_rfl) (by kernel_rfl) (by kernel_rfl) (fun _ _ _ h => h) (Or.inl ⟨by rfl, ?_⟩) (by assumption) ?_
  rotate_left
  · (intro w hSw; (try dsimp only at hSw); go_simp; try with_reducible rfl)
  try simp only [Act.put, List.setIfInBounds_toArray, List.set_cons_zero, List.set_cons_succ]
  refine wpAnyH_takeD (i := 4) (some 21) (v := ?_) rfl rfl (by kernel_rfl) (by kernel_rfl) (by kernel_rfl) (fun _ _ _ h => h) (Or.inl ⟨by rfl, ?_⟩) (by assumption) ?_
  rotate_left
  · (intro w hSw; (try dsimp only at hSw); go_simp; try with_reducible rfl)
  try simp only [Act.put, List.setIfInBounds_toArray, List.set_cons_zero, List.set_cons_succ]
  refine wpAnyH_takeD (i := 5) (some 22) (v := ?_) rfl rfl (by kernel_rfl) (by kernel_rfl) (by kernel_rfl) (fun _ _ _ h => h) (Or.inl ⟨by rfl, ?_⟩) (by assumption) ?_
  rotate_left
  · (intro w hSw; (try dsimp only at hSw); go_simp; try with_reducible rfl)
  try simp only [Act.put, List.setIfInBounds_toArray, List.set_cons_zero, List.set_cons_succ]
  refine wpAnyH_takeD (i := 7) (some 24) (v := ?_) rfl rfl (by kernel_rfl) (by kernel_rfl) (by kernel_rfl) (fun _ _ _ h => h) (Or.inl ⟨by rfl, ?_⟩) (by assumption) ?_
  rotate_left
  · (intro w hSw; (try dsimp only at hSw); go_simp; try with_reducible rfl)
  try simp only [Act.put, List.setIfInBounds_toArray, List.set_cons_zero, List.set_cons_succ]
  refine wpAnyH_takeD (i := 8) (some 25) (v := ?_) rfl rfl (by kernel_rfl) (by kernel_rfl) (by kernel_rfl) (fun _ _ _ h => h) (Or.inl ⟨by rfl, ?_⟩) (by assumption) ?_
  rotate_left
  · (intro w hSw; (try dsimp only at hSw); go_simp; try with_reducible rfl)
  try simp only [Act.put, List.setIfInBounds_toArray, List.set_cons_zero, List.set_cons_succ]
  refine wpAnyH_takeD (i := 9) (some 26) (v := ?_) rfl rfl (by kernel_rfl) (by kernel_rfl) (by kernel_rfl) (fun _ _ _ h => h) (Or.inl ⟨by rfl, ?_⟩) (by assumption) ?_
  rotate_left
  · (intro w hSw; (try dsimp only at hSw); go_simp; try with_reducible rfl)
  try simp only [Act.put, List.setIfInBounds_toArray, List.set_cons_zero, List.set_cons_succ]
  refine wpAnyH_ready (rs := [6]) (by kernel_rfl) (by simp) ?_
  refine AllReadyH.cons (o := _) rfl (fun K hK => ?_) AllReadyH.nil
  go_simp
  refine (HS.out _).mono ?_
  rintro e wx ⟨rfl, rfl⟩
  go_wp2_with fail
  refine hK.out _ _ (KB.out _ (bel_d (Below.refl _ _))) (fun hHeld => ?_)
  clear hK K
  try simp only [Act.put, List.setIfInBounds_toArray, List.set_cons_zero, List.set_cons_succ]
  refine wpAnyH_ready (rs := [10]) (by kernel_rfl) (by simp) ?_
  refine AllReadyH.cons (o := _) rfl (fun K hK => ?_) AllReadyH.nil
  go_simp
  refine (HZ.out _).mono ?_
  rintro e wz ⟨rfl, hbz, hoz⟩
  have hbz' := bel_then (bel_d (Below.refl w1.heap.size w1)) hbz
  go_wp2_with fail
  refine hK.out _ _ (KB.out _ hbz') (fun hHeld => ?_)
  clear hK K
  try simp only [Act.put, List.setIfInBounds_toArray, List.set_cons_zero, List.set_cons_succ]
  refine wpAnyH_takeD (i := 11) (some 28) (v := ?_) rfl rfl (by kernel_rfl) (by kernel_rfl) (by kernel_rfl) (fun _ _ _ h => h) (Or.inl ⟨by rfl, ?_⟩) (by assumption) ?_
  rotate_left
  · (intro w hSw; (try dsimp only at hSw); go_simp; try with_reducible rfl)
  try simp only [Act.put, List.setIfInBounds_toArray, List.set_cons_zero, List.set_cons_succ]
  refine wpAnyH_ready (rs := [12]) (by kernel_rfl) (by simp) ?_
  refine AllReadyH.cons (o := _) rfl (fun K hK => ?_) AllReadyH.nil
  rw [if_pos (by rfl)]
  have B3z := B3a.below hbz'
  refine wp_stB 29 _ _ rfl (by rfl) (by rfl) _ (by rfl) B3z (by rfl) (tcp_size (by rfl)) (by rfl) ?_
  intro wM BM hM
  have B0z := (B0a.below hbz').only hM (by omega)
  have hWs' := hWs
  refine hK.out _ _ ⟨B0z.cell rfl, B0z.cell rfl, B0z.cell rfl, B0z.cell rfl⟩ (fun hHeld => ?_)
  clear hK K
  try simp only [Act.put, List.setIfInBounds_toArray, List.set_cons_zero, List.set_cons_succ]
  refine wpAnyH_takeD (i := 13) (some 5) (v := ?_) rfl rfl (by kernel_rfl) (by kernel_rfl) (by kernel_rfl) (fun _ _ _ h => h) (Or.inl ⟨by rfl, ?_⟩) (by assumption) ?_
  rotate_left
  · (intro w hSw; (try dsimp only at hSw); go_simp; try with_reducible rfl)
  try simp only [Act.put, List.setIfInBounds_toArray, List.set_cons_zero, List.set_cons_succ]
  refine wpAnyH_done (by kernel_rfl) ?_ _
  obtain ⟨t0, t1, t2, t3, t4, t5, t6, t7, t8⟩ := cells9' BM
  go_wp2_with fail
  exact bodyPost_ret (v := .tuple #[.agg #[.int .i64 t.sp, .int .i64 t.dp, .int .u32 (Seq.step t.sq (-1)), .int .u32 0, .int .i64 2, .int .i64 t.wi, .int .i64 0, .slice (some ⟨w1.heap.size + 1, 0, none⟩) 1 1, .slice none 0 0], .int .i64 0]) (by simp [results, Tryd.results14, go_sem, t0, t1, t2, t3, t4, t5, t6, t7, t8]) rfl ⟨hM.bel (by omega) (bel_then hbw1 hbz'), Tcp.askT t m w1.heap.size, rfl, fun w' hs' hk' => tcp_ask_ok hw (mss_fr (mss_only hoz hM (by show w1.heap.size ≠ _; omega) (by show w1.heap.size + 1 ≠ _; omega)) (show w.heap.size ≤ w1.heap.size from hbw1.size) hs' hk'), fun c' hc => (by injection hc), ⟨.inr ⟨_, _, rfl, rfl, rfl, rfl⟩, rfl, rfl, rfl⟩⟩
end Go.Proofs.YtpidpbjbgjkaaaaDoor
namespace Go.Proofs.YtpidpbjbgjkaaaaDoor
open Go.RowKit
set_option maxRecDepth 8000
set_option linter.unusedVariables false
set_option linter.unusedSimpArgs false
set_option maxHeartbeats 4000000 in
theorem pask_no (t : Tcp.T) (m : Int) (w : World) (h : (Go.bits .and .i64 t.fl 23 == 16) = false) :
    Calls Tryd.prog 13 #[.agg #[.int .i64 t.sp, .int .i64 t.dp, .int .u32 t.sq, .int .u32 t.ak, .int .i64 t.fl, .int .i64 t.wi, .int .i64 t.ur, .slice t.Ao t.no t.co, .slice t.Ab t.nb t.cb], .int .i64 m] w (SegR (some Tcp.zero.con) 14 w) := by
  obtain ⟨W, hW⟩ : ∃ W, W = (w.alloc (.cells #[.int .i64 t.sp, .int .i64 t.dp, .int .u32 t.sq, .int .u32 t.ak, .int .i64 t.fl, .int .i64 t.wi, .int .i64 t.ur, .slice t.Ao t.no t.co, .slice t.Ab t.nb t.cb] 29)).alloc (.cells #[.int .i64 0, .int .i64 0, .int .u32 0, .int .u32 0, .int .i64 0, .int .i64 0, .int .i64 0, .slice none 0 0, .slice none 0 0] 29) := ⟨_, rfl⟩
  have hbW : Below w.heap.size w W := by rw [hW]; exact ((Below.refl _ _).alloc (Nat.le_refl _) _).alloc (by simp) _
  have B0 : BlkV W w.heap.size 29 [.int .i64 t.sp, .int .i64 t.dp, .int .u32 t.sq, .int .u32 t.ak, .int .i64 t.fl, .int .i64 t.wi, .int .i64 t.ur, .slice t.Ao t.no t.co, .slice t.Ab t.nb t.cb] := by rw [hW]; exact (BlkV.new w _ _).alloc _
  have B3 : BlkV W (w.heap.size + 1) 29 [.int .i64 0, .int .i64 0, .int .u32 0, .int .u32 0, .int .i64 0, .int .i64 0, .int .i64 0, .slice none 0 0, .slice none 0 0] := by rw [hW]; exact BlkV.new_at (w.alloc (.cells #[.int .i64 t.sp, .int .i64 t.dp, .int .u32 t.sq, .int .u32 t.ak, .int .i64 t.fl, .int .i64 t.wi, .int .i64 t.ur, .slice t.Ao t.no t.co, .slice t.Ab t.nb t.cb] 29)) _ _ (by simp)
  have HW1 := Lib.hid (fun w => pwords_spec t w)
  have hne : (Go.bits .and .i64 t.fl 23 != 16) = true := by rw [bne, h]; rfl
  obtain ⟨x, hx⟩ : ∃ x, Go.bits .and .i64 t.fl 23 = x := ⟨_, rfl⟩
  rw [hx] at HW1 hne
  go_enter Tryd.func13, Tryd.ntmps13
  go_upto_region 1 with (fail)
  rw [← hW]
  clear hW
  go_wp2_with (refine wpList_ldB 29 _ _ (by with_reducible rfl) rfl (by rfl) B0 Tryd.underlying29 rfl (tcp_size (by rfl)) ?_)
  refine (HW1.out W).mono ?_
  rintro e w1 ⟨rfl, hb1⟩
  have B3a := B3.below hb1
  have hbw1 := bel_then hbW hb1
  have hs1 := hb1.size
  clear B0 B3
  go_wp2_with (first | (refine wpList_stB 29 _ _ (by with_reducible rfl) rfl (by rfl) _ (by rfl) B3a (by rfl) (tcp_size (by rfl)) (by rfl) ?_; intro wM BM hM))
  obtain ⟨t0, t1, t2, t3, t4, t5, t6, t7, t8⟩ := cells9' BM
  exact bodyPost_ret (v := .tuple #[.agg #[.int .i64 0, .int .i64 0, .int .u32 0, .int .u32 0, .int .i64 0, .int .i64 0, .int .i64 0, .slice none 0 0, .slice none 0 0], .int .i64 14]) (by simp [results, Tryd.results13, go_sem, t0, t1, t2, t3, t4, t5, t6, t7, t8]) rfl ⟨hM.bel (by omega) hbw1, Tcp.zero, rfl, fun w' _ _ => tcp_zero_ok w', fun c hc => by injection hc, slim_zero⟩
set_option maxHeartbeats 4000000 in
theorem rask_no (t : Tcp.T) (m : Int) (w : World) (h : (Go.bits .and .i64 t.fl 23 == 16) = false) :
    Calls Tryd.prog 14 #[.agg #[.int .i64 t.sp, .int .i64 t.dp, .int .u32 t.sq, .int .u32 t.ak, .int .i64 t.fl, .int .i64 t.wi, .int .i64 t.ur, .slice t.Ao t.no t.co, .slice t.Ab t.nb t.cb], .int .i64 m] w (SegR (some Tcp.zero.con) 14 w) := by
  obtain ⟨W, hW⟩ : ∃ W, W = (w.alloc (.cells #[.int .i64 t.sp, .int .i64 t.dp, .int .u32 t.sq, .int .u32 t.ak, .int .i64 t.fl, .int .i64 t.wi, .int .i64 t.ur, .slice t.Ao t.no t.co, .slice t.Ab t.nb t.cb] 29)).alloc (.cells #[.int .i64 0, .int .i64 0, .int .u32 0, .int .u32 0, .int .i64 0, .int .i64 0, .int .i64 0, .slice none 0 0, .slice none 0 0] 29) := ⟨_, rfl⟩
  have hbW : Below w.heap.size w W := by rw [hW]; exact ((Below.refl _ _).alloc (Nat.le_refl _) _).alloc (by simp) _
  have B0 : BlkV W w.heap.size 29 [.int .i64 t.sp, .int .i64 t.dp, .int .u32 t.sq, .int .u32 t.ak, .int .i64 t.fl, .int .i64 t.wi, .int .i64 t.ur, .slice t.Ao t.no t.co, .slice t.Ab t.nb t.cb] := by rw [hW]; exact (BlkV.new w _ _).alloc _
  have B3 : BlkV W (w.heap.size + 1) 29 [.int .i64 0, .int .i64 0, .int .u32 0, .int .u32 0, .int .i64 0, .int .i64 0, .int .i64 0, .slice none 0 0, .slice none 0 0] := by rw [hW]; exact BlkV.new_at (w.alloc (.cells #[.int .i64 t.sp, .int .i64 t.dp, .int .u32 t.sq, .int .u32 t.ak, .int .i64 t.fl, .int .i64 t.wi, .int .i64 t.ur, .slice t.Ao t.no t.co, .slice t.Ab t.nb t.cb] 29)) _ _ (by simp)
  have HW1 := Lib.hid (fun w => rflags_spec t false true w)
  rw [show Prox.wd false true = 16 from rfl, h] at HW1
  go_enter Tryd.func14, Tryd.ntmps14
  go_upto_region 1 with (fail)
  rw [← hW]
  clear hW
  go_wp2_with (refine wpList_ldB 29 _ _ (by with_reducible rfl) rfl (by rfl) B0 Tryd.underlying29 rfl (tcp_size (by rfl)) ?_)
  refine (HW1.out W).mono ?_
  rintro e w1 ⟨rfl, hb1⟩
  have B3a := B3.below hb1
  have hbw1 := bel_then hbW hb1
  have hs1 := hb1.size
  clear B0 B3
  go_wp2_with (first | (refine wpList_stB 29 _ _ (by with_reducible rfl) rfl (by rfl) _ (by rfl) B3a (by rfl) (tcp_size (by rfl)) (by rfl) ?_; intro wM BM hM))
  obtain ⟨t0, t1, t2, t3, t4, t5, t6, t7, t8⟩ := cells9' BM
  exact bodyPost_ret (v := .tuple #[.agg #[.int .i64 0, .int .i64 0, .int .u32 0, .int .u32 0, .int .i64 0, .int .i64 0, .int .i64 0, .slice none 0 0, .slice none 0 0], .int .i64 14]) (by simp [results, Tryd.results14, go_sem, t0, t1, t2, t3, t4, t5, t6, t7, t8]) rfl ⟨hM.bel (by omega) hbw1, Tcp.zero, rfl, fun w' _ _ => tcp_zero_ok w', fun c hc => by injection hc, slim_zero⟩
set_option maxHeartbeats 4000000 in
theorem pask_bad (t : Tcp.T) (m : Int) (w : World) (h : (Go.bits .and .i64 t.fl 23 == 16) = true) (hm : m < 0 ∨ 65535 < m) :
    Calls Tryd.prog 13 #[.agg #[.int .i64 t.sp, .int .i64 t.dp, .int .u32 t.sq, .int .u32 t.ak, .int .i64 t.fl, .int .i64 t.wi, .int .i64 t.ur, .slice t.Ao t.no t.co, .slice t.Ab t.nb t.cb], .int .i64 m] w (SegR (some Tcp.zero.con) 1 w) := by
  obtain ⟨W, hW⟩ : ∃ W, W = (w.alloc (.cells #[.int .i64 t.sp, .int .i64 t.dp, .int .u32 t.sq, .int .u32 t.ak, .int .i64 t.fl, .int .i64 t.wi, .int .i64 t.ur, .slice t.Ao t.no t.co, .slice t.Ab t.nb t.cb] 29)).alloc (.cells #[.int .i64 0, .int .i64 0, .int .u32 0, .int .u32 0, .int .i64 0, .int .i64 0, .int .i64 0, .slice none 0 0, .slice none 0 0] 29) := ⟨_, rfl⟩
  have hbW : Below w.heap.size w W := by rw [hW]; exact ((Below.refl _ _).alloc (Nat.le_refl _) _).alloc (by simp) _
  have B0 : BlkV W w.heap.size 29 [.int .i64 t.sp, .int .i64 t.dp, .int .u32 t.sq, .int .u32 t.ak, .int .i64 t.fl, .int .i64 t.wi, .int .i64 t.ur, .slice t.Ao t.no t.co, .slice t.Ab t.nb t.cb] := by rw [hW]; exact (BlkV.new w _ _).alloc _
  have B3 : BlkV W (w.heap.size + 1) 29 [.int .i64 0, .int .i64 0, .int .u32 0, .int .u32 0, .int .i64 0, .int .i64 0, .int .i64 0, .slice none 0 0, .slice none 0 0] := by rw [hW]; exact BlkV.new_at (w.alloc (.cells #[.int .i64 t.sp, .int .i64 t.dp, .int .u32 t.sq, .int .u32 t.ak, .int .i64 t.fl, .int .i64 t.wi, .int .i64 t.ur, .slice t.Ao t.no t.co, .slice t.Ab t.nb t.cb] 29)) _ _ (by simp)
  have HW1 := Lib.hid (fun w => pwords_spec t w)
  have hne : (Go.bits .and .i64 t.fl 23 != 16) = false := by rw [bne, h]; rfl
  obtain ⟨x, hx⟩ : ∃ x, Go.bits .and .i64 t.fl 23 = x := ⟨_, rfl⟩
  rw [hx] at HW1 hne
  go_enter Tryd.func13, Tryd.ntmps13
  go_upto_region 1 with (fail)
  rw [← hW]
  clear hW
  go_wp2_with (refine wpList_ldB 29 _ _ (by with_reducible rfl) rfl (by rfl) B0 Tryd.underlying29 rfl (tcp_size (by rfl)) ?_)
  refine (HW1.out W).mono ?_
  rintro e w1 ⟨rfl, hb1⟩
  have B3a := B3.below hb1
  have hbw1 := bel_then hbW hb1
  have hs1 := hb1.size
  clear B0 B3
  rcases hm with hm | hm
  all_goals try (have hm2 : ¬ m < 0 := by omega)
  all_goals
    go_wp2_with (first | (refine wpList_stB 29 _ _ (by with_reducible rfl) rfl (by rfl) _ (by rfl) B3a (by rfl) (tcp_size (by rfl)) (by rfl) ?_; intro wM BM hM))
    obtain ⟨t0, t1, t2, t3, t4, t5, t6, t7, t8⟩ := cells9' BM
    exact bodyPost_ret (v := .tuple #[.agg #[.int .i64 0, .int .i64 0, .int .u32 0, .int .u32 0, .int .i64 0, .int .i64 0, .int .i64 0, .slice none 0 0, .slice none 0 0], .int .i64 1]) (by simp [results, Tryd.results13, go_sem, t0, t1, t2, t3, t4, t5, t6, t7, t8]) rfl ⟨hM.bel (by omega) hbw1, Tcp.zero, rfl, fun w' _ _ => tcp_zero_ok w', fun c hc => by injection hc, slim_zero⟩
set_option maxHeartbeats 4000000 in
theorem rask_bad (t : Tcp.T) (m : Int) (w : World) (h : (Go.bits .and .i64 t.fl 23 == 16) = true) (hm : m < 0 ∨ 65535 < m) :
    Calls Tryd.prog 14 #[.agg #[.int .i64 t.sp, .int .i64 t.dp, .int .u32 t.sq, .int .u32 t.ak, .int .i64 t.fl, .int .i64 t.wi, .int .i64 t.ur, .slice t.Ao t.no t.co, .slice t.Ab t.nb t.cb], .int .i64 m] w (SegR (some Tcp.zero.con) 1 w) := by
  obtain ⟨W, hW⟩ : ∃ W, W = (w.alloc (.cells #[.int .i64 t.sp, .int .i64 t.dp, .int .u32 t.sq, .int .u32 t.ak, .int .i64 t.fl, .int .i64 t.wi, .int .i64 t.ur, .slice t.Ao t.no t.co, .slice t.Ab t.nb t.cb] 29)).alloc (.cells #[.int .i64 0, .int .i64 0, .int .u32 0, .int .u32 0, .int .i64 0, .int .i64 0, .int .i64 0, .slice none 0 0, .slice none 0 0] 29) := ⟨_, rfl⟩
  have hbW : Below w.heap.size w W := by rw [hW]; exact ((Below.refl _ _).alloc (Nat.le_refl _) _).alloc (by simp) _
  have B0 : BlkV W w.heap.size 29 [.int .i64 t.sp, .int .i64 t.dp, .int .u32 t.sq, .int .u32 t.ak, .int .i64 t.fl, .int .i64 t.wi, .int .i64 t.ur, .slice t.Ao t.no t.co, .slice t.Ab t.nb t.cb] := by rw [hW]; exact (BlkV.new w _ _).alloc _
  have B3 : BlkV W (w.heap.size + 1) 29 [.int .i64 0, .int .i64 0, .int .u32 0, .int .u32 0, .int .i64 0, .int .i64 0, .int .i64 0, .slice none 0 0, .slice none 0 0] := by rw [hW]; exact BlkV.new_at (w.alloc (.cells #[.int .i64 t.sp, .int .i64 t.dp, .int .u32 t.sq, .int .u32 t.ak, .int .i64 t.fl, .int .i64 t.wi, .int .i64 t.ur, .slice t.Ao t.no t.co, .slice t.Ab t.nb t.cb] 29)) _ _ (by simp)
  have HW1 := Lib.hid (fun w => rflags_spec t false true w)
  rw [show Prox.wd false true = 16 from rfl, h] at HW1
  go_enter Tryd.func14, Tryd.ntmps14
  go_upto_region 1 with (fail)
  rw [← hW]
  clear hW
  go_wp2_with (refine wpList_ldB 29 _ _ (by with_reducible rfl) rfl (by rfl) B0 Tryd.underlying29 rfl (tcp_size (by rfl)) ?_)
  refine (HW1.out W).mono ?_
  rintro e w1 ⟨rfl, hb1⟩
  have B3a := B3.below hb1
  have hbw1 := bel_then hbW hb1
  have hs1 := hb1.size
  clear B0 B3
  rcases hm with hm | hm
  all_goals try (have hm2 : ¬ m < 0 := by omega)
  all_goals
    go_wp2_with (first | (refine wpList_stB 29 _ _ (by with_reducible rfl) rfl (by rfl) _ (by rfl) B3a (by rfl) (tcp_size (by rfl)) (by rfl) ?_; intro wM BM hM))
    obtain ⟨t0, t1, t2, t3, t4, t5, t6, t7, t8⟩ := cells9' BM
    exact bodyPost_ret (v := .tuple #[.agg #[.int .i64 0, .int .i64 0, .int .u32 0, .int .u32 0, .int .i64 0, .int .i64 0, .int .i64 0, .slice none 0 0, .slice none 0 0], .int .i64 1]) (by simp [results, Tryd.results14, go_sem, t0, t1, t2, t3, t4, t5, t6, t7, t8]) rfl ⟨hM.bel (by omega) hbw1, Tcp.zero, rfl, fun w' _ _ => tcp_zero_ok w', fun c hc => by injection hc, slim_zero⟩
end Go.Proofs.YtpidpbjbgjkaaaaDoor
