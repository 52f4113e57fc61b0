/- The walk of peer.waits, where what is heard fits. -/
import Derived.Test.YtihhcalgjkkalaaPeerTell
import Derived.Test.YtihhcalgjkkalaaTcpOpen
namespace Go.Proofs.Ytihhcalgjkkalaa
open Go.RowKit
set_option linter.unusedVariables false
set_option linter.unusedSimpArgs false
/-- one who waits has heard -/
def Peer.heard (p : Peer.P) (t : Tcp.T) : Peer.P := ⟨3, p.port, t.sp, p.fi, p.fi, Seq.step p.fi 1, Seq.step t.sq 1, p.wi, t.wi, p.d, p.g⟩
/-- one who asks may speak -/
def Peer.speaks (p : Peer.P) (t : Tcp.T) : Peer.P := ⟨4, p.port, p.to, p.fi, t.ak, t.ak, Seq.step t.sq 1, p.wi, t.wi, p.d, p.g⟩
set_option maxHeartbeats 4000000 in
theorem pwaits_spec (p : Peer.P) (t : Tcp.T) (w : World) (hf : Go.bits .and .i64 t.fl 18 = 2) : Calls Try.prog 24 #[.agg #[.int .i64 p.st, .int .i64 p.port, .int .i64 p.to, .int .u32 p.fi, .int .u32 p.un, .int .u32 p.ne, .int .u32 p.wa, .int .i64 p.wi, .int .i64 p.ot, .slice p.d.A p.d.n p.d.c, .slice p.g.A p.g.n p.g.c], .agg #[.int .i64 t.sp, .int .i64 t.dp, .int .u32 t.sq, .int .u32 t.ak, .int .i64 t.fl, .int .i64 t.wi, .int .i64 t.ur, .slice t.Ao t.no t.co, .slice t.Ab t.nb t.cb]] w (SayR (Peer.heard p t) 18 p.fi (Seq.step t.sq 1) w) := by
  obtain ⟨W, hW⟩ : ∃ W, W = (((w.alloc (.cells #[.int .i64 p.st, .int .i64 p.port, .int .i64 p.to, .int .u32 p.fi, .int .u32 p.un, .int .u32 p.ne, .int .u32 p.wa, .int .i64 p.wi, .int .i64 p.ot, .slice p.d.A p.d.n p.d.c, .slice p.g.A p.g.n p.g.c] 26)).alloc (.cells #[.int .i64 t.sp, .int .i64 t.dp, .int .u32 t.sq, .int .u32 t.ak, .int .i64 t.fl, .int .i64 t.wi, .int .i64 t.ur, .slice t.Ao t.no t.co, .slice t.Ab t.nb t.cb] 37)).alloc (.cells #[.int .i64 0, .int .i64 0, .int .i64 0, .int .u32 0, .int .u32 0, .int .u32 0, .int .u32 0, .int .i64 0, .int .i64 0, .slice none 0 0, .slice none 0 0] 26)).alloc (.cells #[.int .i64 0, .int .i64 0, .int .u32 0, .int .u32 0, .int .i64 0, .int .i64 0, .int .i64 0, .slice none 0 0, .slice none 0 0] 37) := ⟨_, rfl⟩
  have hbW : Below w.heap.size w W := (by rw [hW]; exact ((((Below.refl _ _).alloc (Nat.le_refl _) _).alloc (by simp) _).alloc (by simp; omega) _).alloc (by simp; omega) _)
  have hWs : W.heap.size = w.heap.size + 4 := (by rw [hW]; simp)
  have B0 : BlkV W w.heap.size 26 [.int .i64 p.st, .int .i64 p.port, .int .i64 p.to, .int .u32 p.fi, .int .u32 p.un, .int .u32 p.ne, .int .u32 p.wa, .int .i64 p.wi, .int .i64 p.ot, .slice p.d.A p.d.n p.d.c, .slice p.g.A p.g.n p.g.c] := (by rw [hW]; exact (((BlkV.new w _ _).alloc _).alloc _).alloc _)
  have B1 : BlkV W (w.heap.size + 1) 37 [.int .i64 t.sp, .int .i64 t.dp, .int .u32 t.sq, .int .u32 t.ak, .int .i64 t.fl, .int .i64 t.wi, .int .i64 t.ur, .slice t.Ao t.no t.co, .slice t.Ab t.nb t.cb] := (by rw [hW]; exact ((BlkV.new_at (w.alloc (.cells #[.int .i64 p.st, .int .i64 p.port, .int .i64 p.to, .int .u32 p.fi, .int .u32 p.un, .int .u32 p.ne, .int .u32 p.wa, .int .i64 p.wi, .int .i64 p.ot, .slice p.d.A p.d.n p.d.c, .slice p.g.A p.g.n p.g.c] 26)) _ _ (by simp)).alloc _).alloc _)
  have B2 : BlkV W (w.heap.size + 1 + 1) 26 [.int .i64 0, .int .i64 0, .int .i64 0, .int .u32 0, .int .u32 0, .int .u32 0, .int .u32 0, .int .i64 0, .int .i64 0, .slice none 0 0, .slice none 0 0] := (by rw [hW]; exact (BlkV.new_at ((w.alloc (.cells #[.int .i64 p.st, .int .i64 p.port, .int .i64 p.to, .int .u32 p.fi, .int .u32 p.un, .int .u32 p.ne, .int .u32 p.wa, .int .i64 p.wi, .int .i64 p.ot, .slice p.d.A p.d.n p.d.c, .slice p.g.A p.g.n p.g.c] 26)).alloc (.cells #[.int .i64 t.sp, .int .i64 t.dp, .int .u32 t.sq, .int .u32 t.ak, .int .i64 t.fl, .int .i64 t.wi, .int .i64 t.ur, .slice t.Ao t.no t.co, .slice t.Ab t.nb t.cb] 37)) _ _ (by simp)).alloc _)
  have B3 : BlkV W (w.heap.size + 1 + 1 + 1) 37 [.int .i64 0, .int .i64 0, .int .u32 0, .int .u32 0, .int .i64 0, .int .i64 0, .int .i64 0, .slice none 0 0, .slice none 0 0] := (by rw [hW]; exact (BlkV.new_at (((w.alloc (.cells #[.int .i64 p.st, .int .i64 p.port, .int .i64 p.to, .int .u32 p.fi, .int .u32 p.un, .int .u32 p.ne, .int .u32 p.wa, .int .i64 p.wi, .int .i64 p.ot, .slice p.d.A p.d.n p.d.c, .slice p.g.A p.g.n p.g.c] 26)).alloc (.cells #[.int .i64 t.sp, .int .i64 t.dp, .int .u32 t.sq, .int .u32 t.ak, .int .i64 t.fl, .int .i64 t.wi, .int .i64 t.ur, .slice t.Ao t.no t.co, .slice t.Ab t.nb t.cb] 37)).alloc (.cells #[.int .i64 0, .int .i64 0, .int .i64 0, .int .u32 0, .int .u32 0, .int .u32 0, .int .u32 0, .int .i64 0, .int .i64 0, .slice none 0 0, .slice none 0 0] 26)) _ _ (by simp)))
  have HS := Lib.hid (fun w => psay_spec (Peer.heard p t) 1 w (.inr rfl))
  have H1 := Lib.hid (seq_step p.fi 1)
  have H2 := Lib.hid (seq_step t.sq 1)
  have KA : Hid (∀ w' : World, BlkV w' (w.heap.size + 1) 37 [.int .i64 t.sp, .int .i64 t.dp, .int .u32 t.sq, .int .u32 t.ak, .int .i64 t.fl, .int .i64 t.wi, .int .i64 t.ur, .slice t.Ao t.no t.co, .slice t.Ab t.nb t.cb] → (w'.cell? ⟨w.heap.size + 1, 0, none⟩ = some (.int .i64 t.sp) ∧ w'.cell? ⟨w.heap.size + 1, 5, none⟩ = some (.int .i64 t.wi))) := Lib.hid fun w' h => ⟨h.cell rfl, h.cell rfl⟩
  have m4 := cellF B1 4 rfl
  go_enter Try.func24, Try.ntmps24
  go_upto_region 1 with (fail)
  rw [← hW]
  clear hW
  go_wp2_with fail
  refine wp_region_held_drew (S := fun w' => (w'.cell? ⟨w.heap.size + 1, 0, none⟩ = some (.int .i64 t.sp) ∧ w'.cell? ⟨w.heap.size + 1, 5, none⟩ = some (.int .i64 t.wi))) (by kernel_rfl) (KA.out _ B1) (fun hHeld => ?_)
  refine wpAnyH_takeD (i := 0) (some 13) (v := ?_) rfl rfl (by kernel_rfl) (by kernel_rfl) (by kernel_rfl) (fun _ _ _ h => h) (Or.inl ⟨by rfl, ?_⟩) (by assumption) ?_
  rotate_left
  · (intro w hSw; (try dsimp only at hSw); go_simp; try with_reducible rfl)
  try simp only [Act.put, List.setIfInBounds_toArray, List.set_cons_zero, List.set_cons_succ]
  refine wpAnyH_takeD (i := 1) (some 14) (v := ?_) rfl rfl (by kernel_rfl) (by kernel_rfl) (by kernel_rfl) (fun _ _ _ h => h) (Or.inl ⟨by rfl, ?_⟩) (by assumption) ?_
  rotate_left
  · (intro w hSw; (try dsimp only at hSw); go_simp; try with_reducible rfl)
  try simp only [Act.put, List.setIfInBounds_toArray, List.set_cons_zero, List.set_cons_succ]
  refine wpAnyH_takeD (i := 2) (some 15) (v := ?_) rfl rfl (by kernel_rfl) (by kernel_rfl) (by kernel_rfl) (fun _ _ _ h => h) (Or.inl ⟨by rfl, ?_⟩) (by assumption) ?_
  rotate_left
  · (intro w hSw; (try dsimp only at hSw); go_simp; try with_reducible rfl)
  try simp only [Act.put, List.setIfInBounds_toArray, List.set_cons_zero, List.set_cons_succ]
  refine wpAnyH_takeD (i := 3) (some 16) (v := ?_) rfl rfl (by kernel_rfl) (by kernel_rfl) (by kernel_rfl) (fun _ _ _ h => h) (Or.inl ⟨by rfl, ?_⟩) (by assumption) ?_
  rotate_left
  · (intro w hSw; (try dsimp only at hSw); go_simp; try with_reducible rfl)
  try simp only [Act.put, List.setIfInBounds_toArray, List.set_cons_zero, List.set_cons_succ]
  refine wpAnyH_takeD (i := 4) (some 17) (v := ?_) rfl rfl (by kernel_rfl) (by kernel_rfl) (by kernel_rfl) (fun _ _ _ h => h) (Or.inl ⟨by rfl, ?_⟩) (by assumption) ?_
  rotate_left
  · (intro w hSw; (try dsimp only at hSw); go_simp; try with_reducible rfl)
  try simp only [Act.put, List.setIfInBounds_toArray, List.set_cons_zero, List.set_cons_succ]
  refine wpAnyH_ready (rs := [5]) (by kernel_rfl) (by simp) ?_
  refine AllReadyH.cons (o := _) rfl (fun K hK => ?_) AllReadyH.nil
  rw [if_pos (by rfl)]
  refine wp_stF 3 _ _ 0 (.int .i64 3) rfl (by rfl) (by rfl) (by rfl) (show BlkV W.drew _ _ _ from B0) (by simp) (by kernel_rfl) rfl ?_
  intro wa Ba ha
  refine hK.out _ _ (KA.out _ ((show BlkV W.drew _ _ _ from B1).only ha (by omega))) (fun hHeld => ?_)
  clear hK K
  try simp only [Act.put, List.setIfInBounds_toArray, List.set_cons_zero, List.set_cons_succ]
  refine wpAnyH_takeD (i := 6) (some 18) (v := ?_) rfl rfl (by kernel_rfl) (by kernel_rfl) (by kernel_rfl) (fun _ _ _ h => h) (Or.inl ⟨by rfl, ?_⟩) (by assumption) ?_
  rotate_left
  · (intro w hSw; (try dsimp only at hSw); go_simp; try with_reducible rfl)
  try simp only [Act.put, List.setIfInBounds_toArray, List.set_cons_zero, List.set_cons_succ]
  refine wpAnyH_ready (rs := [7]) (by kernel_rfl) (by simp) ?_
  refine AllReadyH.cons (o := _) rfl (fun K hK => ?_) AllReadyH.nil
  rw [if_pos (by rfl)]
  refine wp_stF 3 _ _ 2 (.int .i64 t.sp) rfl (by rfl) (by rfl) (by rfl) Ba (by simp) (by kernel_rfl) rfl ?_
  intro wb Bb hb
  have B1b := ((show BlkV W.drew _ _ _ from B1).only ha (by omega)).only hb (by omega)
  refine hK.out _ _ (KA.out _ B1b) (fun hHeld => ?_)
  clear hK K
  try simp only [Act.put, List.setIfInBounds_toArray, List.set_cons_zero, List.set_cons_succ]
  refine wpAnyH_takeD (i := 8) (some 19) (v := ?_) rfl rfl (by kernel_rfl) (by kernel_rfl) (by kernel_rfl) (fun _ _ _ h => h) (Or.inl ⟨by rfl, ?_⟩) (by assumption) ?_
  rotate_left
  · (intro w hSw; (try dsimp only at hSw); go_simp; try with_reducible rfl)
  try simp only [Act.put, List.setIfInBounds_toArray, List.set_cons_zero, List.set_cons_succ]
  refine wpAnyH_ready (rs := [9]) (by kernel_rfl) (by simp) ?_
  refine AllReadyH.cons (o := _) rfl (fun K hK => ?_) AllReadyH.nil
  rw [if_pos (by rfl)]
  refine wp_stF 3 _ _ 8 (.int .i64 t.wi) rfl (by rfl) (by rfl) (by rfl) Bb (by simp) (by kernel_rfl) rfl ?_
  intro wc Bc hc
  refine hK.out _ _ (KA.out _ (B1b.only hc (by omega))) (fun hHeld => ?_)
  clear hK K
  try simp only [Act.put, List.setIfInBounds_toArray, List.set_cons_zero, List.set_cons_succ]
  refine wpAnyH_done (by kernel_rfl) ?_ _
  have B0c := BlkV.fit Bc (m := [.int .i64 3, .int .i64 p.port, .int .i64 t.sp, .int .u32 p.fi, .int .u32 p.un, .int .u32 p.ne, .int .u32 p.wa, .int .i64 p.wi, .int .i64 t.wi, .slice p.d.A p.d.n p.d.c, .slice p.g.A p.g.n p.g.c]) rfl
  have B1c := B1b.only hc (by omega)
  have B2c := (((show BlkV W.drew _ _ _ from B2).only ha (by omega)).only hb (by omega)).only hc (by omega)
  have B3c := (((show BlkV W.drew _ _ _ from B3).only ha (by omega)).only hb (by omega)).only hc (by omega)
  have hbc := hc.bel (by omega) (hb.bel (by omega) (ha.bel (by omega) (bel_d hbW)))
  have hsc : wc.heap.size = w.heap.size + 4 := by rw [hc.size, hb.size, ha.size]; exact hWs
  clear B0 B1 B2 B3 Ba Bb Bc B1b ha hb hc KA m4 hbW hWs hHeld
  have KB : Hid (∀ w' : World, (∃ a b c : Value, BlkV w' w.heap.size 26 [.int .i64 3, .int .i64 p.port, .int .i64 t.sp, .int .u32 p.fi, a, b, c, .int .i64 p.wi, .int .i64 t.wi, .slice p.d.A p.d.n p.d.c, .slice p.g.A p.g.n p.g.c]) → BlkV w' (w.heap.size + 1) 37 [.int .i64 t.sp, .int .i64 t.dp, .int .u32 t.sq, .int .u32 t.ak, .int .i64 t.fl, .int .i64 t.wi, .int .i64 t.ur, .slice t.Ao t.no t.co, .slice t.Ab t.nb t.cb] → (w'.cell? ⟨w.heap.size, 3, none⟩ = some (.int .u32 p.fi) ∧ w'.cell? ⟨w.heap.size + 1, 2, none⟩ = some (.int .u32 t.sq))) := Lib.hid fun w' ⟨a, b, c, h⟩ k => ⟨h.cell rfl, k.cell rfl⟩
  go_wp2_with fail
  refine wp_region_held_drew (S := fun w' => (w'.cell? ⟨w.heap.size, 3, none⟩ = some (.int .u32 p.fi) ∧ w'.cell? ⟨w.heap.size + 1, 2, none⟩ = some (.int .u32 t.sq))) (by kernel_rfl) (KB.out _ ⟨_, _, _, B0c⟩ B1c) (fun hHeld => ?_)
  refine wpAnyH_takeD (i := 0) (some 20) (v := ?_) rfl rfl (by kernel_rfl) (by kernel_rfl) (by kernel_rfl) (fun _ _ _ h => h) (Or.inl ⟨by rfl, ?_⟩) (by assumption) ?_
  rotate_left
  · (intro w hSw; (try dsimp only at hSw); go_simp; try with_reducible rfl)
  try simp only [Act.put, List.setIfInBounds_toArray, List.set_cons_zero, List.set_cons_succ]
  refine wpAnyH_takeD (i := 1) (some 21) (v := ?_) rfl rfl (by kernel_rfl) (by kernel_rfl) (by kernel_rfl) (fun _ _ _ h => h) (Or.inl ⟨by rfl, ?_⟩) (by assumption) ?_
  rotate_left
  · (intro w hSw; (try dsimp only at hSw); go_simp; try with_reducible rfl)
  try simp only [Act.put, List.setIfInBounds_toArray, List.set_cons_zero, List.set_cons_succ]
  refine wpAnyH_takeD (i := 2) (some 22) (v := ?_) rfl rfl (by kernel_rfl) (by kernel_rfl) (by kernel_rfl) (fun _ _ _ h => h) (Or.inl ⟨by rfl, ?_⟩) (by assumption) ?_
  rotate_left
  · (intro w hSw; (try dsimp only at hSw); go_simp; try with_reducible rfl)
  try simp only [Act.put, List.setIfInBounds_toArray, List.set_cons_zero, List.set_cons_succ]
  refine wpAnyH_takeD (i := 3) (some 23) (v := ?_) rfl rfl (by kernel_rfl) (by kernel_rfl) (by kernel_rfl) (fun _ _ _ h => h) (Or.inl ⟨by rfl, ?_⟩) (by assumption) ?_
  rotate_left
  · (intro w hSw; (try dsimp only at hSw); go_simp; try with_reducible rfl)
  try simp only [Act.put, List.setIfInBounds_toArray, List.set_cons_zero, List.set_cons_succ]
  refine wpAnyH_takeD (i := 5) (some 25) (v := ?_) rfl rfl (by kernel_rfl) (by kernel_rfl) (by kernel_rfl) (fun _ _ _ h => h) (Or.inl ⟨by rfl, ?_⟩) (by assumption) ?_
  rotate_left
  · (intro w hSw; (try dsimp only at hSw); go_simp; try with_reducible rfl)
  try simp only [Act.put, List.setIfInBounds_toArray, List.set_cons_zero, List.set_cons_succ]
  refine wpAnyH_takeD (i := 6) (some 26) (v := ?_) rfl rfl (by kernel_rfl) (by kernel_rfl) (by kernel_rfl) (fun _ _ _ h => h) (Or.inl ⟨by rfl, ?_⟩) (by assumption) ?_
  rotate_left
  · (intro w hSw; (try dsimp only at hSw); go_simp; try with_reducible rfl)
  try simp only [Act.put, List.setIfInBounds_toArray, List.set_cons_zero, List.set_cons_succ]
  refine wpAnyH_takeD (i := 8) (some 28) (v := ?_) rfl rfl (by kernel_rfl) (by kernel_rfl) (by kernel_rfl) (fun _ _ _ h => h) (Or.inl ⟨by rfl, ?_⟩) (by assumption) ?_
  rotate_left
  · (intro w hSw; (try dsimp only at hSw); go_simp; try with_reducible rfl)
  try simp only [Act.put, List.setIfInBounds_toArray, List.set_cons_zero, List.set_cons_succ]
  refine wpAnyH_ready (rs := [4]) (by kernel_rfl) (by simp) ?_
  refine AllReadyH.cons (o := _) rfl (fun K hK => ?_) AllReadyH.nil
  go_simp
  refine (H1.out _).mono ?_
  rintro e wx ⟨rfl, rfl⟩
  go_wp2_with fail
  refine hK.out _ _ (KB.out _ ⟨_, _, _, B0c⟩ B1c) (fun hHeld => ?_)
  clear hK K
  try simp only [Act.put, List.setIfInBounds_toArray, List.set_cons_zero, List.set_cons_succ]
  refine wpAnyH_ready (rs := [7]) (by kernel_rfl) (by simp) ?_
  refine AllReadyH.cons (o := _) rfl (fun K hK => ?_) AllReadyH.nil
  go_simp
  refine (H2.out _).mono ?_
  rintro e wx ⟨rfl, rfl⟩
  go_wp2_with fail
  refine hK.out _ _ (KB.out _ ⟨_, _, _, B0c⟩ B1c) (fun hHeld => ?_)
  clear hK K
  try simp only [Act.put, List.setIfInBounds_toArray, List.set_cons_zero, List.set_cons_succ]
  refine wpAnyH_ready (rs := [9]) (by kernel_rfl) (by simp) ?_
  refine AllReadyH.cons (o := _) rfl (fun K hK => ?_) AllReadyH.nil
  rw [if_pos (by rfl)]
  refine wp_stF 22 _ _ 4 (.int .u32 p.fi) rfl (by rfl) (by rfl) (by rfl) (show BlkV wc.drew _ _ _ from B0c) (by simp) (by kernel_rfl) rfl ?_
  intro wa Ba ha
  have Ba := BlkV.fit Ba (m := [.int .i64 3, .int .i64 p.port, .int .i64 t.sp, .int .u32 p.fi, .int .u32 p.fi, .int .u32 p.ne, .int .u32 p.wa, .int .i64 p.wi, .int .i64 t.wi, .slice p.d.A p.d.n p.d.c, .slice p.g.A p.g.n p.g.c]) rfl
  have B1a := (show BlkV wc.drew _ _ _ from B1c).only ha (by omega)
  refine hK.out _ _ (KB.out _ ⟨_, _, _, Ba⟩ B1a) (fun hHeld => ?_)
  clear hK K
  try simp only [Act.put, List.setIfInBounds_toArray, List.set_cons_zero, List.set_cons_succ]
  refine wpAnyH_takeD (i := 10) (some 29) (v := ?_) rfl rfl (by kernel_rfl) (by kernel_rfl) (by kernel_rfl) (fun _ _ _ h => h) (Or.inl ⟨by rfl, ?_⟩) (by assumption) ?_
  rotate_left
  · (intro w hSw; (try dsimp only at hSw); go_simp; try with_reducible rfl)
  try simp only [Act.put, List.setIfInBounds_toArray, List.set_cons_zero, List.set_cons_succ]
  refine wpAnyH_ready (rs := [11]) (by kernel_rfl) (by simp) ?_
  refine AllReadyH.cons (o := _) rfl (fun K hK => ?_) AllReadyH.nil
  rw [if_pos (by rfl)]
  refine wp_stF 22 _ _ 5 (.int .u32 (Seq.step p.fi 1)) rfl (by rfl) (by rfl) (by rfl) Ba (by simp) (by kernel_rfl) rfl ?_
  intro wb Bb hb
  have Bb := BlkV.fit Bb (m := [.int .i64 3, .int .i64 p.port, .int .i64 t.sp, .int .u32 p.fi, .int .u32 p.fi, .int .u32 (Seq.step p.fi 1), .int .u32 p.wa, .int .i64 p.wi, .int .i64 t.wi, .slice p.d.A p.d.n p.d.c, .slice p.g.A p.g.n p.g.c]) rfl
  have B1b := B1a.only hb (by omega)
  refine hK.out _ _ (KB.out _ ⟨_, _, _, Bb⟩ B1b) (fun hHeld => ?_)
  clear hK K
  try simp only [Act.put, List.setIfInBounds_toArray, List.set_cons_zero, List.set_cons_succ]
  refine wpAnyH_takeD (i := 12) (some 30) (v := ?_) rfl rfl (by kernel_rfl) (by kernel_rfl) (by kernel_rfl) (fun _ _ _ h => h) (Or.inl ⟨by rfl, ?_⟩) (by assumption) ?_
  rotate_left
  · (intro w hSw; (try dsimp only at hSw); go_simp; try with_reducible rfl)
  try simp only [Act.put, List.setIfInBounds_toArray, List.set_cons_zero, List.set_cons_succ]
  refine wpAnyH_ready (rs := [13]) (by kernel_rfl) (by simp) ?_
  refine AllReadyH.cons (o := _) rfl (fun K hK => ?_) AllReadyH.nil
  rw [if_pos (by rfl)]
  refine wp_stF 22 _ _ 6 (.int .u32 (Seq.step t.sq 1)) rfl (by rfl) (by rfl) (by rfl) Bb (by simp) (by kernel_rfl) rfl ?_
  intro wd Bd hd
  have Bd := BlkV.fit Bd (m := [.int .i64 3, .int .i64 p.port, .int .i64 t.sp, .int .u32 p.fi, .int .u32 p.fi, .int .u32 (Seq.step p.fi 1), .int .u32 (Seq.step t.sq 1), .int .i64 p.wi, .int .i64 t.wi, .slice p.d.A p.d.n p.d.c, .slice p.g.A p.g.n p.g.c]) rfl
  refine hK.out _ _ (KB.out _ ⟨_, _, _, Bd⟩ (B1b.only hd (by omega))) (fun hHeld => ?_)
  clear hK K
  try simp only [Act.put, List.setIfInBounds_toArray, List.set_cons_zero, List.set_cons_succ]
  refine wpAnyH_done (by kernel_rfl) ?_ _
  have B2d := (((show BlkV wc.drew _ _ _ from B2c).only ha (by omega)).only hb (by omega)).only hd (by omega)
  have B3d := (((show BlkV wc.drew _ _ _ from B3c).only ha (by omega)).only hb (by omega)).only hd (by omega)
  have hbd := hd.bel (by omega) (hb.bel (by omega) (ha.bel (by omega) (bel_d hbc)))
  have hsd : wd.heap.size = w.heap.size + 4 := by rw [hd.size, hb.size, ha.size]; exact hsc
  clear B0c B1c B2c B3c Ba Bb B1a B1b ha hb hd KB hbc hsc hHeld H1 H2
  go_wp2_with (refine wpList_ldB 26 _ _ (by with_reducible rfl) rfl (by rfl) (by assumption) Try.underlying26 rfl (peer_size (by rfl)) ?_)
  refine (HS.out wd).mono ?_
  rintro e w5 ⟨hb5, A2, k2, rfl, hown⟩
  have B2 := B2d.below hb5
  have B3 := B3d.below hb5
  have HO := Lib.hid hown
  have hs5 := hb5.size
  clear B2d B3d Bd hown HS
  simp only [Peer.heard]
  go_wp2_with (first | (refine wpList_stB 26 _ _ (by with_reducible rfl) rfl (by rfl) _ (by rfl) (by assumption) (by rfl) (peer_size (by rfl)) (by rfl) ?_; intro wN BN hO) | (refine wpList_stB 37 _ _ (by with_reducible rfl) rfl (by rfl) _ (by rfl) (B3.only hO (by omega)) (by rfl) (tcp_size (by rfl)) (by rfl) ?_; intro wM BM hM))
  have BN' := BN.only hM (by omega)
  obtain ⟨r0, r1, r2, r3, r4, r5, r6, r7, r8, r9, r10⟩ := cells11 BN'
  obtain ⟨t0, t1, t2, t3, t4, t5, t6, t7, t8⟩ := cells9 BM
  clear BN BM BN' B2 B3
  exact bodyPost_ret (v := .tuple #[.agg #[.int .i64 3, .int .i64 p.port, .int .i64 t.sp, .int .u32 p.fi, .int .u32 p.fi, .int .u32 (Seq.step p.fi 1), .int .u32 (Seq.step t.sq 1), .int .i64 p.wi, .int .i64 t.wi, .slice p.d.A p.d.n p.d.c, .slice p.g.A p.g.n p.g.c], .agg #[.int .i64 p.port, .int .i64 t.sp, .int .u32 p.fi, .int .u32 (Seq.step t.sq 1), .int .i64 18, .int .i64 p.wi, .int .i64 0, .slice none 0 0, .slice A2 0 k2], .bool true]) (by simp [results, Try.results24, go_sem, Peer.heard, Peer.sak, Peer.sfl, r0, r1, r2, r3, r4, r5, r6, r7, r8, r9, r10, t0, t1, t2, t3, t4, t5, t6, t7, t8]) rfl ⟨hM.bel (by omega) (hO.bel (by omega) (bel_then hbd hb5)), A2, k2, rfl, own_weak (own_only (own_only HO.out hO (by omega)) hM (by omega)) (by omega)⟩
end Go.Proofs.Ytihhcalgjkkalaa
