/- The walk of peer.asks, where what is heard fits. -/
import Derived.Test.YtihhcalgjkkalaaPeerHear
namespace Go.Proofs.Ytihhcalgjkkalaa
open Go.RowKit
set_option linter.unusedVariables false
set_option linter.unusedSimpArgs false
set_option maxHeartbeats 4000000 in
theorem pasks_spec (p : Peer.P) (t : Tcp.T) (w : World) (hf : Go.bits .and .i64 t.fl 18 = 18) (hak : t.ak = Seq.step p.fi 1) : Calls Try.prog 25 #[.agg #[.int .i64 p.st, .int .i64 p.port, .int .i64 p.to, .int .u32 p.fi, .int .u32 p.un, .int .u32 p.ne, .int .u32 p.wa, .int .i64 p.wi, .int .i64 p.ot, .slice p.d.A p.d.n p.d.c, .slice p.g.A p.g.n p.g.c], .agg #[.int .i64 t.sp, .int .i64 t.dp, .int .u32 t.sq, .int .u32 t.ak, .int .i64 t.fl, .int .i64 t.wi, .int .i64 t.ur, .slice t.Ao t.no t.co, .slice t.Ab t.nb t.cb]] w (SayR (Peer.speaks p t) 16 t.ak (Seq.step t.sq 1) w) := by
  obtain ⟨W, hW⟩ : ∃ W, W = (((w.alloc (.cells #[.int .i64 p.st, .int .i64 p.port, .int .i64 p.to, .int .u32 p.fi, .int .u32 p.un, .int .u32 p.ne, .int .u32 p.wa, .int .i64 p.wi, .int .i64 p.ot, .slice p.d.A p.d.n p.d.c, .slice p.g.A p.g.n p.g.c] 26)).alloc (.cells #[.int .i64 t.sp, .int .i64 t.dp, .int .u32 t.sq, .int .u32 t.ak, .int .i64 t.fl, .int .i64 t.wi, .int .i64 t.ur, .slice t.Ao t.no t.co, .slice t.Ab t.nb t.cb] 37)).alloc (.cells #[.int .i64 0, .int .i64 0, .int .i64 0, .int .u32 0, .int .u32 0, .int .u32 0, .int .u32 0, .int .i64 0, .int .i64 0, .slice none 0 0, .slice none 0 0] 26)).alloc (.cells #[.int .i64 0, .int .i64 0, .int .u32 0, .int .u32 0, .int .i64 0, .int .i64 0, .int .i64 0, .slice none 0 0, .slice none 0 0] 37) := ⟨_, rfl⟩
  have hbW : Below w.heap.size w W := (by rw [hW]; exact ((((Below.refl _ _).alloc (Nat.le_refl _) _).alloc (by simp) _).alloc (by simp; omega) _).alloc (by simp; omega) _)
  have hWs : W.heap.size = w.heap.size + 4 := (by rw [hW]; simp)
  have B0 : BlkV W w.heap.size 26 [.int .i64 p.st, .int .i64 p.port, .int .i64 p.to, .int .u32 p.fi, .int .u32 p.un, .int .u32 p.ne, .int .u32 p.wa, .int .i64 p.wi, .int .i64 p.ot, .slice p.d.A p.d.n p.d.c, .slice p.g.A p.g.n p.g.c] := (by rw [hW]; exact (((BlkV.new w _ _).alloc _).alloc _).alloc _)
  have B1 : BlkV W (w.heap.size + 1) 37 [.int .i64 t.sp, .int .i64 t.dp, .int .u32 t.sq, .int .u32 t.ak, .int .i64 t.fl, .int .i64 t.wi, .int .i64 t.ur, .slice t.Ao t.no t.co, .slice t.Ab t.nb t.cb] := (by rw [hW]; exact ((BlkV.new_at (w.alloc (.cells #[.int .i64 p.st, .int .i64 p.port, .int .i64 p.to, .int .u32 p.fi, .int .u32 p.un, .int .u32 p.ne, .int .u32 p.wa, .int .i64 p.wi, .int .i64 p.ot, .slice p.d.A p.d.n p.d.c, .slice p.g.A p.g.n p.g.c] 26)) _ _ (by simp)).alloc _).alloc _)
  have B2 : BlkV W (w.heap.size + 1 + 1) 26 [.int .i64 0, .int .i64 0, .int .i64 0, .int .u32 0, .int .u32 0, .int .u32 0, .int .u32 0, .int .i64 0, .int .i64 0, .slice none 0 0, .slice none 0 0] := (by rw [hW]; exact (BlkV.new_at ((w.alloc (.cells #[.int .i64 p.st, .int .i64 p.port, .int .i64 p.to, .int .u32 p.fi, .int .u32 p.un, .int .u32 p.ne, .int .u32 p.wa, .int .i64 p.wi, .int .i64 p.ot, .slice p.d.A p.d.n p.d.c, .slice p.g.A p.g.n p.g.c] 26)).alloc (.cells #[.int .i64 t.sp, .int .i64 t.dp, .int .u32 t.sq, .int .u32 t.ak, .int .i64 t.fl, .int .i64 t.wi, .int .i64 t.ur, .slice t.Ao t.no t.co, .slice t.Ab t.nb t.cb] 37)) _ _ (by simp)).alloc _)
  have B3 : BlkV W (w.heap.size + 1 + 1 + 1) 37 [.int .i64 0, .int .i64 0, .int .u32 0, .int .u32 0, .int .i64 0, .int .i64 0, .int .i64 0, .slice none 0 0, .slice none 0 0] := (by rw [hW]; exact (BlkV.new_at (((w.alloc (.cells #[.int .i64 p.st, .int .i64 p.port, .int .i64 p.to, .int .u32 p.fi, .int .u32 p.un, .int .u32 p.ne, .int .u32 p.wa, .int .i64 p.wi, .int .i64 p.ot, .slice p.d.A p.d.n p.d.c, .slice p.g.A p.g.n p.g.c] 26)).alloc (.cells #[.int .i64 t.sp, .int .i64 t.dp, .int .u32 t.sq, .int .u32 t.ak, .int .i64 t.fl, .int .i64 t.wi, .int .i64 t.ur, .slice t.Ao t.no t.co, .slice t.Ab t.nb t.cb] 37)).alloc (.cells #[.int .i64 0, .int .i64 0, .int .i64 0, .int .u32 0, .int .u32 0, .int .u32 0, .int .u32 0, .int .i64 0, .int .i64 0, .slice none 0 0, .slice none 0 0] 26)) _ _ (by simp)))
  have HN := Lib.hid (fun w => pnod_spec (Peer.speaks p t) w)
  have H1 := Lib.hid (seq_step p.fi 1)
  rw [← hak] at H1
  have H2 := Lib.hid (seq_step t.sq 1)
  clear hak
  have KA : Hid (∀ w' : World, BlkV w' w.heap.size 26 [.int .i64 p.st, .int .i64 p.port, .int .i64 p.to, .int .u32 p.fi, .int .u32 p.un, .int .u32 p.ne, .int .u32 p.wa, .int .i64 p.wi, .int .i64 p.ot, .slice p.d.A p.d.n p.d.c, .slice p.g.A p.g.n p.g.c] → BlkV w' (w.heap.size + 1) 37 [.int .i64 t.sp, .int .i64 t.dp, .int .u32 t.sq, .int .u32 t.ak, .int .i64 t.fl, .int .i64 t.wi, .int .i64 t.ur, .slice t.Ao t.no t.co, .slice t.Ab t.nb t.cb] → (w'.cell? ⟨w.heap.size + 1, 4, none⟩ = some (.int .i64 t.fl) ∧ w'.cell? ⟨w.heap.size + 1, 3, none⟩ = some (.int .u32 t.ak) ∧ w'.cell? ⟨w.heap.size, 3, none⟩ = some (.int .u32 p.fi))) := Lib.hid fun w' h k => ⟨k.cell rfl, k.cell rfl, h.cell rfl⟩
  have KB : Hid (∀ w' : World, BlkV w' (w.heap.size + 1) 37 [.int .i64 t.sp, .int .i64 t.dp, .int .u32 t.sq, .int .u32 t.ak, .int .i64 t.fl, .int .i64 t.wi, .int .i64 t.ur, .slice t.Ao t.no t.co, .slice t.Ab t.nb t.cb] → w'.cell? ⟨w.heap.size + 1, 5, none⟩ = some (.int .i64 t.wi)) := Lib.hid fun w' k => k.cell rfl
  have KC : Hid (∀ w' : World, BlkV w' (w.heap.size + 1) 37 [.int .i64 t.sp, .int .i64 t.dp, .int .u32 t.sq, .int .u32 t.ak, .int .i64 t.fl, .int .i64 t.wi, .int .i64 t.ur, .slice t.Ao t.no t.co, .slice t.Ab t.nb t.cb] → (w'.cell? ⟨w.heap.size + 1, 3, none⟩ = some (.int .u32 t.ak) ∧ w'.cell? ⟨w.heap.size + 1, 2, none⟩ = some (.int .u32 t.sq))) := Lib.hid fun w' k => ⟨k.cell rfl, k.cell rfl⟩
  have KD : Hid (∀ w' : World, BlkV w' w.heap.size 26 [.int .i64 4, .int .i64 p.port, .int .i64 p.to, .int .u32 p.fi, .int .u32 t.ak, .int .u32 t.ak, .int .u32 (Seq.step t.sq 1), .int .i64 p.wi, .int .i64 t.wi, .slice p.d.A p.d.n p.d.c, .slice p.g.A p.g.n p.g.c] → (w'.cell? ⟨w.heap.size, 0, none⟩ = some (.int .i64 4) ∧ w'.cell? ⟨w.heap.size, 1, none⟩ = some (.int .i64 p.port) ∧ w'.cell? ⟨w.heap.size, 2, none⟩ = some (.int .i64 p.to) ∧ w'.cell? ⟨w.heap.size, 3, none⟩ = some (.int .u32 p.fi) ∧ w'.cell? ⟨w.heap.size, 4, none⟩ = some (.int .u32 t.ak) ∧ w'.cell? ⟨w.heap.size, 5, none⟩ = some (.int .u32 t.ak) ∧ w'.cell? ⟨w.heap.size, 6, none⟩ = some (.int .u32 (Seq.step t.sq 1)) ∧ w'.cell? ⟨w.heap.size, 7, none⟩ = some (.int .i64 p.wi) ∧ w'.cell? ⟨w.heap.size, 8, none⟩ = some (.int .i64 t.wi) ∧ w'.cell? ⟨w.heap.size, 9, none⟩ = some (.slice p.d.A p.d.n p.d.c) ∧ w'.cell? ⟨w.heap.size, 10, none⟩ = some (.slice p.g.A p.g.n p.g.c))) := Lib.hid fun w' h => cells11 h
  go_enter Try.func25, Try.ntmps25
  go_upto_region 1 with (fail)
  rw [← hW]
  clear hW
  refine wp_region_held_drew (S := fun w' => (w'.cell? ⟨w.heap.size + 1, 4, none⟩ = some (.int .i64 t.fl) ∧ w'.cell? ⟨w.heap.size + 1, 3, none⟩ = some (.int .u32 t.ak) ∧ w'.cell? ⟨w.heap.size, 3, none⟩ = some (.int .u32 p.fi))) (by kernel_rfl) (KA.out _ B0 B1) (fun hHeld => ?_)
  refine wpAnyH_takeD (i := 0) (some 7) (v := ?_) rfl rfl (by kernel_rfl) (by kernel_rfl) (by kernel_rfl) (fun _ _ _ h => h) (Or.inl ⟨by rfl, ?_⟩) (by assumption) ?_
  rotate_left
  · (intro w hSw; (try dsimp only at hSw); go_simp; try with_reducible rfl)
  try simp only [Act.put, List.setIfInBounds_toArray, List.set_cons_zero, List.set_cons_succ]
  refine wpAnyH_takeD (i := 1) (some 8) (v := ?_) rfl rfl (by kernel_rfl) (by kernel_rfl) (by kernel_rfl) (fun _ _ _ h => h) (Or.inl ⟨by rfl, ?_⟩) (by assumption) ?_
  rotate_left
  · (intro w hSw; (try dsimp only at hSw); go_simp; try with_reducible rfl)
  try simp only [Act.put, List.setIfInBounds_toArray, List.set_cons_zero, List.set_cons_succ]
  refine wpAnyH_takeD (i := 2) (some 9) (v := ?_) rfl rfl (by kernel_rfl) (by kernel_rfl) (by kernel_rfl) (fun _ _ _ h => h) (Or.inl ⟨by rfl, ?_⟩) (by assumption) ?_
  rotate_left
  · (intro w hSw; (try dsimp only at hSw); go_simp; try with_reducible rfl)
  try simp only [Act.put, List.setIfInBounds_toArray, List.set_cons_zero, List.set_cons_succ]
  refine wpAnyH_takeD (i := 3) (some 10) (v := ?_) rfl rfl (by kernel_rfl) (by kernel_rfl) (by kernel_rfl) (fun _ _ _ h => h) (Or.inl ⟨by rfl, ?_⟩) (by assumption) ?_
  rotate_left
  · (intro w hSw; (try dsimp only at hSw); go_simp; try with_reducible rfl)
  try simp only [Act.put, List.setIfInBounds_toArray, List.set_cons_zero, List.set_cons_succ]
  refine wpAnyH_takeD (i := 4) (some 11) (v := ?_) rfl rfl (by kernel_rfl) (by kernel_rfl) (by kernel_rfl) (fun _ _ _ h => h) (Or.inl ⟨by rfl, ?_⟩) (by assumption) ?_
  rotate_left
  · (intro w hSw; (try dsimp only at hSw); go_simp; try with_reducible rfl)
  try simp only [Act.put, List.setIfInBounds_toArray, List.set_cons_zero, List.set_cons_succ]
  refine wpAnyH_takeD (i := 5) (some 12) (v := ?_) rfl rfl (by kernel_rfl) (by kernel_rfl) (by kernel_rfl) (fun _ _ _ h => h) (Or.inl ⟨by rfl, ?_⟩) (by assumption) ?_
  rotate_left
  · (intro w hSw; (try dsimp only at hSw); go_simp; try with_reducible rfl)
  try simp only [Act.put, List.setIfInBounds_toArray, List.set_cons_zero, List.set_cons_succ]
  refine wpAnyH_takeD (i := 6) (some 13) (v := ?_) rfl rfl (by kernel_rfl) (by kernel_rfl) (by kernel_rfl) (fun _ _ _ h => h) (Or.inl ⟨by rfl, ?_⟩) (by assumption) ?_
  rotate_left
  · (intro w hSw; (try dsimp only at hSw); go_simp; try with_reducible rfl)
  try simp only [Act.put, List.setIfInBounds_toArray, List.set_cons_zero, List.set_cons_succ]
  refine wpAnyH_takeD (i := 7) (some 14) (v := ?_) rfl rfl (by kernel_rfl) (by kernel_rfl) (by kernel_rfl) (fun _ _ _ h => h) (Or.inl ⟨by rfl, ?_⟩) (by assumption) ?_
  rotate_left
  · (intro w hSw; (try dsimp only at hSw); go_simp; try with_reducible rfl)
  try simp only [Act.put, List.setIfInBounds_toArray, List.set_cons_zero, List.set_cons_succ]
  refine wpAnyH_takeD (i := 8) (some 15) (v := ?_) rfl rfl (by kernel_rfl) (by kernel_rfl) (by kernel_rfl) (fun _ _ _ h => h) (Or.inl ⟨by rfl, ?_⟩) (by assumption) ?_
  rotate_left
  · (intro w hSw; (try dsimp only at hSw); go_simp; try with_reducible rfl)
  try simp only [Act.put, List.setIfInBounds_toArray, List.set_cons_zero, List.set_cons_succ]
  refine wpAnyH_ready (rs := [9]) (by kernel_rfl) (by simp) ?_
  refine AllReadyH.cons (o := _) rfl (fun K hK => ?_) AllReadyH.nil
  go_simp
  refine (H1.out _).mono ?_
  rintro e wx ⟨rfl, rfl⟩
  go_wp2_with fail
  refine hK.out _ _ (KA.out _ B0 B1) (fun hHeld => ?_)
  clear hK K
  try simp only [Act.put, List.setIfInBounds_toArray, List.set_cons_zero, List.set_cons_succ]
  refine wpAnyH_takeD (i := 10) (some 17) (v := ?_) rfl rfl (by kernel_rfl) (by kernel_rfl) (by kernel_rfl) (fun _ _ _ h => h) (Or.inl ⟨by rfl, ?_⟩) (by assumption) ?_
  rotate_left
  · (intro w hSw; (try dsimp only at hSw); go_simp; try with_reducible rfl)
  try simp only [Act.put, List.setIfInBounds_toArray, List.set_cons_zero, List.set_cons_succ]
  refine wpAnyH_takeD (i := 11) (some 18) (v := ?_) rfl rfl (by kernel_rfl) (by kernel_rfl) (by kernel_rfl) (fun _ _ _ h => h) (Or.inl ⟨by rfl, ?_⟩) (by assumption) ?_
  rotate_left
  · (intro w hSw; (try dsimp only at hSw); go_simp; try with_reducible rfl)
  try simp only [Act.put, List.setIfInBounds_toArray, List.set_cons_zero, List.set_cons_succ]
  refine wpAnyH_done (by kernel_rfl) ?_ _
  clear hHeld KA H1
  go_wp2_with fail
  refine wp_region_held_drew (S := fun w' => w'.cell? ⟨w.heap.size + 1, 5, none⟩ = some (.int .i64 t.wi)) (by kernel_rfl) (KB.out _ B1) (fun hHeld => ?_)
  refine wpAnyH_takeD (i := 0) (some 21) (v := ?_) rfl rfl (by kernel_rfl) (by kernel_rfl) (by kernel_rfl) (fun _ _ _ h => h) (Or.inl ⟨by rfl, ?_⟩) (by assumption) ?_
  rotate_left
  · (intro w hSw; (try dsimp only at hSw); go_simp; try with_reducible rfl)
  try simp only [Act.put, List.setIfInBounds_toArray, List.set_cons_zero, List.set_cons_succ]
  refine wpAnyH_takeD (i := 1) (some 22) (v := ?_) rfl rfl (by kernel_rfl) (by kernel_rfl) (by kernel_rfl) (fun _ _ _ h => h) (Or.inl ⟨by rfl, ?_⟩) (by assumption) ?_
  rotate_left
  · (intro w hSw; (try dsimp only at hSw); go_simp; try with_reducible rfl)
  try simp only [Act.put, List.setIfInBounds_toArray, List.set_cons_zero, List.set_cons_succ]
  refine wpAnyH_takeD (i := 2) (some 23) (v := ?_) rfl rfl (by kernel_rfl) (by kernel_rfl) (by kernel_rfl) (fun _ _ _ h => h) (Or.inl ⟨by rfl, ?_⟩) (by assumption) ?_
  rotate_left
  · (intro w hSw; (try dsimp only at hSw); go_simp; try with_reducible rfl)
  try simp only [Act.put, List.setIfInBounds_toArray, List.set_cons_zero, List.set_cons_succ]
  refine wpAnyH_ready (rs := [3]) (by kernel_rfl) (by simp) ?_
  refine AllReadyH.cons (o := _) rfl (fun K hK => ?_) AllReadyH.nil
  rw [if_pos (by rfl)]
  refine wp_stF 3 _ _ 0 (.int .i64 4) rfl (by rfl) (by rfl) (by rfl) (show BlkV W.drew.drew _ _ _ from B0) (by simp) (by kernel_rfl) rfl ?_
  intro wa Ba ha
  have B1a := (show BlkV W.drew.drew _ _ _ from B1).only ha (by omega)
  refine hK.out _ _ (KB.out _ B1a) (fun hHeld => ?_)
  clear hK K
  try simp only [Act.put, List.setIfInBounds_toArray, List.set_cons_zero, List.set_cons_succ]
  refine wpAnyH_takeD (i := 4) (some 24) (v := ?_) rfl rfl (by kernel_rfl) (by kernel_rfl) (by kernel_rfl) (fun _ _ _ h => h) (Or.inl ⟨by rfl, ?_⟩) (by assumption) ?_
  rotate_left
  · (intro w hSw; (try dsimp only at hSw); go_simp; try with_reducible rfl)
  try simp only [Act.put, List.setIfInBounds_toArray, List.set_cons_zero, List.set_cons_succ]
  refine wpAnyH_ready (rs := [5]) (by kernel_rfl) (by simp) ?_
  refine AllReadyH.cons (o := _) rfl (fun K hK => ?_) AllReadyH.nil
  rw [if_pos (by rfl)]
  refine wp_stF 3 _ _ 8 (.int .i64 t.wi) rfl (by rfl) (by rfl) (by rfl) Ba (by simp) (by kernel_rfl) rfl ?_
  intro wb Bb hb
  have B1b := B1a.only hb (by omega)
  refine hK.out _ _ (KB.out _ B1b) (fun hHeld => ?_)
  clear hK K
  try simp only [Act.put, List.setIfInBounds_toArray, List.set_cons_zero, List.set_cons_succ]
  refine wpAnyH_done (by kernel_rfl) ?_ _
  have B0c := BlkV.fit Bb (m := [.int .i64 4, .int .i64 p.port, .int .i64 p.to, .int .u32 p.fi, .int .u32 p.un, .int .u32 p.ne, .int .u32 p.wa, .int .i64 p.wi, .int .i64 t.wi, .slice p.d.A p.d.n p.d.c, .slice p.g.A p.g.n p.g.c]) rfl
  have B2c := ((show BlkV W.drew.drew _ _ _ from B2).only ha (by omega)).only hb (by omega)
  have B3c := ((show BlkV W.drew.drew _ _ _ from B3).only ha (by omega)).only hb (by omega)
  have hbc := hb.bel (by omega) (ha.bel (by omega) (bel_d (bel_d hbW)))
  have hsc : wb.heap.size = w.heap.size + 4 := by rw [hb.size, ha.size]; exact hWs
  clear B0 B1 B2 B3 Ba Bb B1a ha hb KB hbW hWs hHeld
  go_wp2_with fail
  refine wp_region_held_drew (S := fun w' => (w'.cell? ⟨w.heap.size + 1, 3, none⟩ = some (.int .u32 t.ak) ∧ w'.cell? ⟨w.heap.size + 1, 2, none⟩ = some (.int .u32 t.sq))) (by kernel_rfl) (KC.out _ B1b) (fun hHeld => ?_)
  refine wpAnyH_takeD (i := 0) (some 25) (v := ?_) rfl rfl (by kernel_rfl) (by kernel_rfl) (by kernel_rfl) (fun _ _ _ h => h) (Or.inl ⟨by rfl, ?_⟩) (by assumption) ?_
  rotate_left
  · (intro w hSw; (try dsimp only at hSw); go_simp; try with_reducible rfl)
  try simp only [Act.put, List.setIfInBounds_toArray, List.set_cons_zero, List.set_cons_succ]
  refine wpAnyH_takeD (i := 1) (some 26) (v := ?_) rfl rfl (by kernel_rfl) (by kernel_rfl) (by kernel_rfl) (fun _ _ _ h => h) (Or.inl ⟨by rfl, ?_⟩) (by assumption) ?_
  rotate_left
  · (intro w hSw; (try dsimp only at hSw); go_simp; try with_reducible rfl)
  try simp only [Act.put, List.setIfInBounds_toArray, List.set_cons_zero, List.set_cons_succ]
  refine wpAnyH_takeD (i := 2) (some 27) (v := ?_) rfl rfl (by kernel_rfl) (by kernel_rfl) (by kernel_rfl) (fun _ _ _ h => h) (Or.inl ⟨by rfl, ?_⟩) (by assumption) ?_
  rotate_left
  · (intro w hSw; (try dsimp only at hSw); go_simp; try with_reducible rfl)
  try simp only [Act.put, List.setIfInBounds_toArray, List.set_cons_zero, List.set_cons_succ]
  refine wpAnyH_takeD (i := 3) (some 28) (v := ?_) rfl rfl (by kernel_rfl) (by kernel_rfl) (by kernel_rfl) (fun _ _ _ h => h) (Or.inl ⟨by rfl, ?_⟩) (by assumption) ?_
  rotate_left
  · (intro w hSw; (try dsimp only at hSw); go_simp; try with_reducible rfl)
  try simp only [Act.put, List.setIfInBounds_toArray, List.set_cons_zero, List.set_cons_succ]
  refine wpAnyH_takeD (i := 4) (some 29) (v := ?_) rfl rfl (by kernel_rfl) (by kernel_rfl) (by kernel_rfl) (fun _ _ _ h => h) (Or.inl ⟨by rfl, ?_⟩) (by assumption) ?_
  rotate_left
  · (intro w hSw; (try dsimp only at hSw); go_simp; try with_reducible rfl)
  try simp only [Act.put, List.setIfInBounds_toArray, List.set_cons_zero, List.set_cons_succ]
  refine wpAnyH_takeD (i := 5) (some 30) (v := ?_) rfl rfl (by kernel_rfl) (by kernel_rfl) (by kernel_rfl) (fun _ _ _ h => h) (Or.inl ⟨by rfl, ?_⟩) (by assumption) ?_
  rotate_left
  · (intro w hSw; (try dsimp only at hSw); go_simp; try with_reducible rfl)
  try simp only [Act.put, List.setIfInBounds_toArray, List.set_cons_zero, List.set_cons_succ]
  refine wpAnyH_takeD (i := 7) (some 32) (v := ?_) rfl rfl (by kernel_rfl) (by kernel_rfl) (by kernel_rfl) (fun _ _ _ h => h) (Or.inl ⟨by rfl, ?_⟩) (by assumption) ?_
  rotate_left
  · (intro w hSw; (try dsimp only at hSw); go_simp; try with_reducible rfl)
  try simp only [Act.put, List.setIfInBounds_toArray, List.set_cons_zero, List.set_cons_succ]
  refine wpAnyH_ready (rs := [6]) (by kernel_rfl) (by simp) ?_
  refine AllReadyH.cons (o := _) rfl (fun K hK => ?_) AllReadyH.nil
  go_simp
  refine (H2.out _).mono ?_
  rintro e wx ⟨rfl, rfl⟩
  go_wp2_with fail
  refine hK.out _ _ (KC.out _ B1b) (fun hHeld => ?_)
  clear hK K
  try simp only [Act.put, List.setIfInBounds_toArray, List.set_cons_zero, List.set_cons_succ]
  refine wpAnyH_ready (rs := [8]) (by kernel_rfl) (by simp) ?_
  refine AllReadyH.cons (o := _) rfl (fun K hK => ?_) AllReadyH.nil
  rw [if_pos (by rfl)]
  refine wp_stF 22 _ _ 4 (.int .u32 t.ak) rfl (by rfl) (by rfl) (by rfl) (show BlkV wb.drew _ _ _ from B0c) (by simp) (by kernel_rfl) rfl ?_
  intro wa Ba ha
  have B1a := (show BlkV wb.drew _ _ _ from B1b).only ha (by omega)
  refine hK.out _ _ (KC.out _ B1a) (fun hHeld => ?_)
  clear hK K
  try simp only [Act.put, List.setIfInBounds_toArray, List.set_cons_zero, List.set_cons_succ]
  refine wpAnyH_takeD (i := 9) (some 33) (v := ?_) rfl rfl (by kernel_rfl) (by kernel_rfl) (by kernel_rfl) (fun _ _ _ h => h) (Or.inl ⟨by rfl, ?_⟩) (by assumption) ?_
  rotate_left
  · (intro w hSw; (try dsimp only at hSw); go_simp; try with_reducible rfl)
  try simp only [Act.put, List.setIfInBounds_toArray, List.set_cons_zero, List.set_cons_succ]
  refine wpAnyH_ready (rs := [10]) (by kernel_rfl) (by simp) ?_
  refine AllReadyH.cons (o := _) rfl (fun K hK => ?_) AllReadyH.nil
  rw [if_pos (by rfl)]
  refine wp_stF 22 _ _ 5 (.int .u32 t.ak) rfl (by rfl) (by rfl) (by rfl) Ba (by simp) (by kernel_rfl) rfl ?_
  intro wc Bc hc
  have B1d := B1a.only hc (by omega)
  refine hK.out _ _ (KC.out _ B1d) (fun hHeld => ?_)
  clear hK K
  try simp only [Act.put, List.setIfInBounds_toArray, List.set_cons_zero, List.set_cons_succ]
  refine wpAnyH_takeD (i := 11) (some 34) (v := ?_) rfl rfl (by kernel_rfl) (by kernel_rfl) (by kernel_rfl) (fun _ _ _ h => h) (Or.inl ⟨by rfl, ?_⟩) (by assumption) ?_
  rotate_left
  · (intro w hSw; (try dsimp only at hSw); go_simp; try with_reducible rfl)
  try simp only [Act.put, List.setIfInBounds_toArray, List.set_cons_zero, List.set_cons_succ]
  refine wpAnyH_ready (rs := [12]) (by kernel_rfl) (by simp) ?_
  refine AllReadyH.cons (o := _) rfl (fun K hK => ?_) AllReadyH.nil
  rw [if_pos (by rfl)]
  refine wp_stF 22 _ _ 6 (.int .u32 (Seq.step t.sq 1)) rfl (by rfl) (by rfl) (by rfl) Bc (by simp) (by kernel_rfl) rfl ?_
  intro wd Bd hd
  refine hK.out _ _ (KC.out _ (B1d.only hd (by omega))) (fun hHeld => ?_)
  clear hK K
  try simp only [Act.put, List.setIfInBounds_toArray, List.set_cons_zero, List.set_cons_succ]
  refine wpAnyH_done (by kernel_rfl) ?_ _
  have B0d := BlkV.fit Bd (m := [.int .i64 4, .int .i64 p.port, .int .i64 p.to, .int .u32 p.fi, .int .u32 t.ak, .int .u32 t.ak, .int .u32 (Seq.step t.sq 1), .int .i64 p.wi, .int .i64 t.wi, .slice p.d.A p.d.n p.d.c, .slice p.g.A p.g.n p.g.c]) rfl
  have B2d := (((show BlkV wb.drew _ _ _ from B2c).only ha (by omega)).only hc (by omega)).only hd (by omega)
  have B3d := (((show BlkV wb.drew _ _ _ from B3c).only ha (by omega)).only hc (by omega)).only hd (by omega)
  have hbd := hd.bel (by omega) (hc.bel (by omega) (ha.bel (by omega) (bel_d hbc)))
  have hsd : wd.heap.size = w.heap.size + 4 := by rw [hd.size, hc.size, ha.size]; exact hsc
  clear B0c B1b B2c B3c Ba Bc B1a B1d ha hc hd KC hbc hsc hHeld H2
  go_wp2_with fail
  refine wp_region_held_drew (S := fun w' => (w'.cell? ⟨w.heap.size, 0, none⟩ = some (.int .i64 4) ∧ w'.cell? ⟨w.heap.size, 1, none⟩ = some (.int .i64 p.port) ∧ w'.cell? ⟨w.heap.size, 2, none⟩ = some (.int .i64 p.to) ∧ w'.cell? ⟨w.heap.size, 3, none⟩ = some (.int .u32 p.fi) ∧ w'.cell? ⟨w.heap.size, 4, none⟩ = some (.int .u32 t.ak) ∧ w'.cell? ⟨w.heap.size, 5, none⟩ = some (.int .u32 t.ak) ∧ w'.cell? ⟨w.heap.size, 6, none⟩ = some (.int .u32 (Seq.step t.sq 1)) ∧ w'.cell? ⟨w.heap.size, 7, none⟩ = some (.int .i64 p.wi) ∧ w'.cell? ⟨w.heap.size, 8, none⟩ = some (.int .i64 t.wi) ∧ w'.cell? ⟨w.heap.size, 9, none⟩ = some (.slice p.d.A p.d.n p.d.c) ∧ w'.cell? ⟨w.heap.size, 10, none⟩ = some (.slice p.g.A p.g.n p.g.c))) (by kernel_rfl) (KD.out _ B0d) (fun hHeld => ?_)
  refine wpAnyH_takeD (i := 0) (some 35) (v := ?_) rfl rfl (by kernel_rfl) (by kernel_rfl) (by kernel_rfl) (fun _ _ _ h => h) (Or.inl ⟨by rfl, ?_⟩) (by assumption) ?_
  rotate_left
  · (intro w hSw; (try dsimp only at hSw); go_simp; try with_reducible rfl)
  try simp only [Act.put, List.setIfInBounds_toArray, List.set_cons_zero, List.set_cons_succ]
  refine wpAnyH_takeD (i := 1) (some 36) (v := ?_) rfl rfl (by kernel_rfl) (by kernel_rfl) (by kernel_rfl) (fun _ _ _ h => h) (Or.inl ⟨by rfl, ?_⟩) (by assumption) ?_
  rotate_left
  · (intro w hSw; (try dsimp only at hSw); go_simp; try with_reducible rfl)
  try simp only [Act.put, List.setIfInBounds_toArray, List.set_cons_zero, List.set_cons_succ]
  refine wpAnyH_ready (rs := [2]) (by kernel_rfl) (by simp) ?_
  refine AllReadyH.cons (o := _) rfl (fun K hK => ?_) AllReadyH.nil
  go_simp
  refine (HN.out _).mono ?_
  rintro e w5 ⟨hb5, A2, k2, rfl, hown⟩
  have B0e := (show BlkV wd.drew _ _ _ from B0d).below hb5
  have B2 := (show BlkV wd.drew _ _ _ from B2d).below hb5
  have B3 := (show BlkV wd.drew _ _ _ from B3d).below hb5
  have HO := Lib.hid hown
  have hs5 : wd.heap.size ≤ w5.heap.size := hb5.size
  clear hown
  go_wp2_with fail
  refine hK.out _ _ (KD.out _ B0e) (fun hHeld => ?_)
  clear hK K
  try simp only [Act.put, List.setIfInBounds_toArray, List.set_cons_zero, List.set_cons_succ]
  refine wpAnyH_ready (rs := [3]) (by kernel_rfl) (by simp) ?_
  refine AllReadyH.cons (o := _) rfl (fun K hK => ?_) AllReadyH.nil
  rw [if_pos (by rfl)]
  refine wp_stB 26 _ _ rfl (by rfl) (by rfl) _ (by rfl) B2 (by rfl) (peer_size (by rfl)) (by rfl) ?_
  intro wN BN hO
  refine hK.out _ _ (KD.out _ (B0e.only hO (by omega))) (fun hHeld => ?_)
  clear hK K
  try simp only [Act.put, List.setIfInBounds_toArray, List.set_cons_zero, List.set_cons_succ]
  refine wpAnyH_ready (rs := [4]) (by kernel_rfl) (by simp) ?_
  refine AllReadyH.cons (o := _) rfl (fun K hK => ?_) AllReadyH.nil
  rw [if_pos (by rfl)]
  refine wp_stB 37 _ _ rfl (by rfl) (by rfl) _ (by rfl) (B3.only hO (by omega)) (by rfl) (tcp_size (by rfl)) (by rfl) ?_
  intro wM BM hM
  refine hK.out _ _ (KD.out _ ((B0e.only hO (by omega)).only hM (by omega))) (fun hHeld => ?_)
  clear hK K
  try simp only [Act.put, List.setIfInBounds_toArray, List.set_cons_zero, List.set_cons_succ]
  refine wpAnyH_takeD (i := 5) (some 6) (v := ?_) rfl rfl (by kernel_rfl) (by kernel_rfl) (by kernel_rfl) (fun _ _ _ h => h) (Or.inl ⟨by rfl, ?_⟩) (by assumption) ?_
  rotate_left
  · (intro w hSw; (try dsimp only at hSw); go_simp; try with_reducible rfl)
  try simp only [Act.put, List.setIfInBounds_toArray, List.set_cons_zero, List.set_cons_succ]
  refine wpAnyH_done (by kernel_rfl) ?_ _
  have BN' := BN.only hM (by omega)
  obtain ⟨r0, r1, r2, r3, r4, r5, r6, r7, r8, r9, r10⟩ := cells11 BN'
  obtain ⟨t0, t1, t2, t3, t4, t5, t6, t7, t8⟩ := cells9 BM
  clear BN BM BN' B2 B3 B0e B0d B2d B3d hHeld KD
  have hsd' : wd.drew.heap.size = w.heap.size + 4 := hsd
  go_wp2_with fail
  exact bodyPost_ret (v := .tuple #[.agg #[.int .i64 4, .int .i64 p.port, .int .i64 p.to, .int .u32 p.fi, .int .u32 t.ak, .int .u32 t.ak, .int .u32 (Seq.step t.sq 1), .int .i64 p.wi, .int .i64 t.wi, .slice p.d.A p.d.n p.d.c, .slice p.g.A p.g.n p.g.c], .agg #[.int .i64 p.port, .int .i64 p.to, .int .u32 t.ak, .int .u32 (Seq.step t.sq 1), .int .i64 16, .int .i64 p.wi, .int .i64 0, .slice none 0 0, .slice A2 0 k2], .bool true]) (by simp [results, Try.results25, go_sem, Peer.speaks, Peer.nil, r0, r1, r2, r3, r4, r5, r6, r7, r8, r9, r10, t0, t1, t2, t3, t4, t5, t6, t7, t8]) rfl ⟨hM.bel (by omega) (hO.bel (by omega) (bel_then (bel_d hbd) hb5)), A2, k2, rfl, own_weak (own_only (own_only HO.out hO (by omega)) hM (by omega)) (by omega)⟩
end Go.Proofs.Ytihhcalgjkkalaa
