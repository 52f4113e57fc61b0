/- The walks of peer.say (of one who asks, and of one who has heard), Say. -/
import Derived.Test.YtihhcalgjkkalaaPeerCop
namespace Go.Proofs.Ytihhcalgjkkalaa
open Go.RowKit
set_option linter.unusedVariables false
set_option linter.unusedSimpArgs false
def SayR (p : Peer.P) (fl num ack : Int) (w : World) (e : Ending) (w' : World) : Prop :=
  Below w.heap.size w w' ∧ ∃ A c, e = .returned (.tuple #[.agg #[.int .i64 p.st, .int .i64 p.port, .int .i64 p.to, .int .u32 p.fi, .int .u32 p.un, .int .u32 p.ne, .int .u32 p.wa, .int .i64 p.wi, .int .i64 p.ot, .slice p.d.A p.d.n p.d.c, .slice p.g.A p.g.n p.g.c], .agg #[.int .i64 p.port, .int .i64 p.to, .int .u32 num, .int .u32 ack, .int .i64 fl, .int .i64 p.wi, .int .i64 0, .slice none 0 0, .slice A 0 c], .bool true]) ∧ w'.ownsRow w.heap.size 5 1 (.slice A 0 c) 0 []
set_option maxHeartbeats 2000000 in
theorem psay2_spec (p : Peer.P) (mss : Int) (w : World) (hst : p.st = 2) : Calls Try.prog 31 #[.agg #[.int .i64 p.st, .int .i64 p.port, .int .i64 p.to, .int .u32 p.fi, .int .u32 p.un, .int .u32 p.ne, .int .u32 p.wa, .int .i64 p.wi, .int .i64 p.ot, .slice p.d.A p.d.n p.d.c, .slice p.g.A p.g.n p.g.c], .int .i64 mss] w (SayR p 2 p.fi 0 w) := by
  have hq2 : (p.st == 2) = true := by rw [hst]; rfl
  have HST := Lib.hid hst
  clear hst
  obtain ⟨W, hW⟩ : ∃ W, W = ((w.alloc (.cells #[.int .i64 p.st, .int .i64 p.port, .int .i64 p.to, .int .u32 p.fi, .int .u32 p.un, .int .u32 p.ne, .int .u32 p.wa, .int .i64 p.wi, .int .i64 p.ot, .slice p.d.A p.d.n p.d.c, .slice p.g.A p.g.n p.g.c] 26)).alloc (.cells #[.int .i64 0, .int .i64 0, .int .i64 0, .int .u32 0, .int .u32 0, .int .u32 0, .int .u32 0, .int .i64 0, .int .i64 0, .slice none 0 0, .slice none 0 0] 26)).alloc (.cells #[.int .i64 0, .int .i64 0, .int .u32 0, .int .u32 0, .int .i64 0, .int .i64 0, .int .i64 0, .slice none 0 0, .slice none 0 0] 37) := ⟨_, rfl⟩
  have hbW : Below w.heap.size w W := (by rw [hW]; exact (((Below.refl _ _).alloc (Nat.le_refl _) _).alloc (by simp) _).alloc (by simp; omega) _)
  have hWs : W.heap.size = w.heap.size + 3 := (by rw [hW]; simp)
  have B0 : BlkV W w.heap.size 26 [.int .i64 p.st, .int .i64 p.port, .int .i64 p.to, .int .u32 p.fi, .int .u32 p.un, .int .u32 p.ne, .int .u32 p.wa, .int .i64 p.wi, .int .i64 p.ot, .slice p.d.A p.d.n p.d.c, .slice p.g.A p.g.n p.g.c] := (by rw [hW]; exact ((BlkV.new w _ _).alloc _).alloc _)
  have B1 : BlkV W (w.heap.size + 1) 26 [.int .i64 0, .int .i64 0, .int .i64 0, .int .u32 0, .int .u32 0, .int .u32 0, .int .u32 0, .int .i64 0, .int .i64 0, .slice none 0 0, .slice none 0 0] := (by rw [hW]; exact (BlkV.new_at (w.alloc (.cells #[.int .i64 p.st, .int .i64 p.port, .int .i64 p.to, .int .u32 p.fi, .int .u32 p.un, .int .u32 p.ne, .int .u32 p.wa, .int .i64 p.wi, .int .i64 p.ot, .slice p.d.A p.d.n p.d.c, .slice p.g.A p.g.n p.g.c] 26)) _ _ (by simp)).alloc _)
  have B2 : BlkV W (w.heap.size + 1 + 1) 37 [.int .i64 0, .int .i64 0, .int .u32 0, .int .u32 0, .int .i64 0, .int .i64 0, .int .i64 0, .slice none 0 0, .slice none 0 0] := (by rw [hW]; exact (BlkV.new_at ((w.alloc (.cells #[.int .i64 p.st, .int .i64 p.port, .int .i64 p.to, .int .u32 p.fi, .int .u32 p.un, .int .u32 p.ne, .int .u32 p.wa, .int .i64 p.wi, .int .i64 p.ot, .slice p.d.A p.d.n p.d.c, .slice p.g.A p.g.n p.g.c] 26)).alloc (.cells #[.int .i64 0, .int .i64 0, .int .i64 0, .int .u32 0, .int .u32 0, .int .u32 0, .int .u32 0, .int .i64 0, .int .i64 0, .slice none 0 0, .slice none 0 0] 26)) _ _ (by simp)))
  have HC := Lib.hid (psegment_spec p 2 p.fi 0 Peer.nil W.drew (Peer.nil_ok _) (by show (0 : Nat) ≤ _; omega))
  have KF : Hid (∀ w' : World, BlkV w' w.heap.size 26 [.int .i64 p.st, .int .i64 p.port, .int .i64 p.to, .int .u32 p.fi, .int .u32 p.un, .int .u32 p.ne, .int .u32 p.wa, .int .i64 p.wi, .int .i64 p.ot, .slice p.d.A p.d.n p.d.c, .slice p.g.A p.g.n p.g.c] → (w'.cell? ⟨w.heap.size, 0, none⟩ = some (.int .i64 p.st) ∧ w'.cell? ⟨w.heap.size, 1, none⟩ = some (.int .i64 p.port) ∧ w'.cell? ⟨w.heap.size, 2, none⟩ = some (.int .i64 p.to) ∧ w'.cell? ⟨w.heap.size, 3, none⟩ = some (.int .u32 p.fi) ∧ w'.cell? ⟨w.heap.size, 4, none⟩ = some (.int .u32 p.un) ∧ w'.cell? ⟨w.heap.size, 5, none⟩ = some (.int .u32 p.ne) ∧ w'.cell? ⟨w.heap.size, 6, none⟩ = some (.int .u32 p.wa) ∧ w'.cell? ⟨w.heap.size, 7, none⟩ = some (.int .i64 p.wi) ∧ w'.cell? ⟨w.heap.size, 8, none⟩ = some (.int .i64 p.ot) ∧ w'.cell? ⟨w.heap.size, 9, none⟩ = some (.slice p.d.A p.d.n p.d.c) ∧ w'.cell? ⟨w.heap.size, 10, none⟩ = some (.slice p.g.A p.g.n p.g.c))) := Lib.hid fun w' h => cells11 h
  obtain ⟨c0, c1, c2, c3, c4, c5, c6, c7, c8, c9, c10⟩ := KF.out W B0
  go_enter Try.func31, Try.ntmps31
  go_upto_region 1 with (fail)
  rw [← hW]
  clear hW
  go_wp2_with fail
  refine wp_region_held_drew (S := fun w' => (w'.cell? ⟨w.heap.size, 0, none⟩ = some (.int .i64 p.st) ∧ w'.cell? ⟨w.heap.size, 1, none⟩ = some (.int .i64 p.port) ∧ w'.cell? ⟨w.heap.size, 2, none⟩ = some (.int .i64 p.to) ∧ w'.cell? ⟨w.heap.size, 3, none⟩ = some (.int .u32 p.fi) ∧ w'.cell? ⟨w.heap.size, 4, none⟩ = some (.int .u32 p.un) ∧ w'.cell? ⟨w.heap.size, 5, none⟩ = some (.int .u32 p.ne) ∧ w'.cell? ⟨w.heap.size, 6, none⟩ = some (.int .u32 p.wa) ∧ w'.cell? ⟨w.heap.size, 7, none⟩ = some (.int .i64 p.wi) ∧ w'.cell? ⟨w.heap.size, 8, none⟩ = some (.int .i64 p.ot) ∧ w'.cell? ⟨w.heap.size, 9, none⟩ = some (.slice p.d.A p.d.n p.d.c) ∧ w'.cell? ⟨w.heap.size, 10, none⟩ = some (.slice p.g.A p.g.n p.g.c))) (by kernel_rfl) (KF.out _ B0) (fun hHeld => ?_)
  refine wpAnyH_takeD (i := 0) (some 13) (v := ?_) rfl rfl (by kernel_rfl) (by kernel_rfl) (by kernel_rfl) (fun _ _ _ h => h) (Or.inl ⟨by rfl, ?_⟩) (by assumption) ?_
  rotate_left
  · (intro w hSw; (try dsimp only at hSw); go_simp; try with_reducible rfl)
  try simp only [Act.put, List.setIfInBounds_toArray, List.set_cons_zero, List.set_cons_succ]
  refine wpAnyH_takeD (i := 1) (some 14) (v := ?_) rfl rfl (by kernel_rfl) (by kernel_rfl) (by kernel_rfl) (fun _ _ _ h => h) (Or.inl ⟨by rfl, ?_⟩) (by assumption) ?_
  rotate_left
  · (intro w hSw; (try dsimp only at hSw); go_simp; try with_reducible rfl)
  try simp only [Act.put, List.setIfInBounds_toArray, List.set_cons_zero, List.set_cons_succ]
  refine wpAnyH_takeD (i := 2) (some 15) (v := ?_) rfl rfl (by kernel_rfl) (by kernel_rfl) (by kernel_rfl) (fun _ _ _ h => h) (Or.inl ⟨by rfl, ?_⟩) (by assumption) ?_
  rotate_left
  · (intro w hSw; (try dsimp only at hSw); go_simp; try with_reducible rfl)
  try simp only [Act.put, List.setIfInBounds_toArray, List.set_cons_zero, List.set_cons_succ]
  refine wpAnyH_takeD (i := 3) (some 16) (v := ?_) rfl rfl (by kernel_rfl) (by kernel_rfl) (by kernel_rfl) (fun _ _ _ h => h) (Or.inl ⟨by rfl, ?_⟩) (by assumption) ?_
  rotate_left
  · (intro w hSw; (try dsimp only at hSw); go_simp; try with_reducible rfl)
  try simp only [Act.put, List.setIfInBounds_toArray, List.set_cons_zero, List.set_cons_succ]
  refine wpAnyH_ready (rs := [4]) (by kernel_rfl) (by simp) ?_
  refine AllReadyH.cons (o := _) rfl (fun K hK => ?_) AllReadyH.nil
  go_simp
  refine HC.out.mono ?_
  rintro e w2 ⟨hb2, A2, k2, rfl, hown2⟩
  have B0' := (show BlkV W.drew _ _ _ from B0).below hb2
  have B1' := (show BlkV W.drew _ _ _ from B1).below hb2
  have B2' := (show BlkV W.drew _ _ _ from B2).below hb2
  go_wp2_with fail
  refine hK.out _ _ (KF.out _ B0') (fun hHeld => ?_)
  clear hK K
  try simp only [Act.put, List.setIfInBounds_toArray, List.set_cons_zero, List.set_cons_succ]
  simp only [Peer.nil] at hown2 ⊢
  refine wpAnyH_ready (rs := [5]) (by kernel_rfl) (by simp) ?_
  refine AllReadyH.cons (o := _) rfl (fun K hK => ?_) AllReadyH.nil
  rw [if_pos (by rfl)]
  refine wp_stB 26 _ _ rfl (by rfl) (by rfl) _ (by rfl) B1' (by rfl) (peer_size (by rfl)) (by rfl) ?_
  intro wN BN hO
  refine hK.out _ _ (KF.out _ (B0'.only hO (by omega))) (fun hHeld => ?_)
  clear hK K
  try simp only [Act.put, List.setIfInBounds_toArray, List.set_cons_zero, List.set_cons_succ]
  refine wpAnyH_ready (rs := [6]) (by kernel_rfl) (by simp) ?_
  refine AllReadyH.cons (o := _) rfl (fun K hK => ?_) AllReadyH.nil
  rw [if_pos (by rfl)]
  refine wp_stB 37 _ _ rfl (by rfl) (by rfl) _ (by rfl) (B2'.only hO (by omega)) (by rfl) (tcp_size (by rfl)) (by rfl) ?_
  intro wM BM hM
  refine hK.out _ _ (KF.out _ ((B0'.only hO (by omega)).only hM (by omega))) (fun hHeld => ?_)
  clear hK K
  try simp only [Act.put, List.setIfInBounds_toArray, List.set_cons_zero, List.set_cons_succ]
  refine wpAnyH_takeD (i := 7) (some 6) (v := ?_) rfl rfl (by kernel_rfl) (by kernel_rfl) (by kernel_rfl) (fun _ _ _ h => h) (Or.inl ⟨by rfl, ?_⟩) (by assumption) ?_
  rotate_left
  · (intro w hSw; (try dsimp only at hSw); go_simp; try with_reducible rfl)
  try simp only [Act.put, List.setIfInBounds_toArray, List.set_cons_zero, List.set_cons_succ]
  refine wpAnyH_done (by kernel_rfl) ?_ _
  have BN' := BN.only hM (by omega)
  obtain ⟨r0, r1, r2, r3, r4, r5, r6, r7, r8, r9, r10⟩ := cells11 BN'
  obtain ⟨t0, t1, t2, t3, t4, t5, t6, t7, t8⟩ := cells9 BM
  have hWd : W.drew.heap.size = w.heap.size + 3 := hWs
  clear c0 c1 c2 c3 c4 c5 c6 c7 c8 c9 c10 KF HC B0 B1 B2 B0' B1' B2' hHeld
  go_wp2_with fail
  exact bodyPost_ret (v := .tuple #[.agg #[.int .i64 p.st, .int .i64 p.port, .int .i64 p.to, .int .u32 p.fi, .int .u32 p.un, .int .u32 p.ne, .int .u32 p.wa, .int .i64 p.wi, .int .i64 p.ot, .slice p.d.A p.d.n p.d.c, .slice p.g.A p.g.n p.g.c], .agg #[.int .i64 p.port, .int .i64 p.to, .int .u32 p.fi, .int .u32 0, .int .i64 2, .int .i64 p.wi, .int .i64 0, .slice none 0 0, .slice A2 0 k2], .bool true]) (by simp [results, Try.results31, go_sem, r0, r1, r2, r3, r4, r5, r6, r7, r8, r9, r10, t0, t1, t2, t3, t4, t5, t6, t7, t8]) rfl ⟨hM.bel (by omega) (hO.bel (by omega) (bel_then (bel_d hbW) hb2)), A2, k2, rfl, own_weak (own_only (own_only hown2 hO (by omega)) hM (by omega)) (by omega)⟩
set_option maxHeartbeats 2000000 in
theorem psay3_spec (p : Peer.P) (mss : Int) (w : World) (hst : p.st = 3) : Calls Try.prog 31 #[.agg #[.int .i64 p.st, .int .i64 p.port, .int .i64 p.to, .int .u32 p.fi, .int .u32 p.un, .int .u32 p.ne, .int .u32 p.wa, .int .i64 p.wi, .int .i64 p.ot, .slice p.d.A p.d.n p.d.c, .slice p.g.A p.g.n p.g.c], .int .i64 mss] w (SayR p 18 p.fi p.wa w) := by
  have hq2 : (p.st == 2) = false := by rw [hst]; rfl
  have hq3 : (p.st == 3) = true := by rw [hst]; rfl
  have HST := Lib.hid hst
  clear hst
  obtain ⟨W, hW⟩ : ∃ W, W = ((w.alloc (.cells #[.int .i64 p.st, .int .i64 p.port, .int .i64 p.to, .int .u32 p.fi, .int .u32 p.un, .int .u32 p.ne, .int .u32 p.wa, .int .i64 p.wi, .int .i64 p.ot, .slice p.d.A p.d.n p.d.c, .slice p.g.A p.g.n p.g.c] 26)).alloc (.cells #[.int .i64 0, .int .i64 0, .int .i64 0, .int .u32 0, .int .u32 0, .int .u32 0, .int .u32 0, .int .i64 0, .int .i64 0, .slice none 0 0, .slice none 0 0] 26)).alloc (.cells #[.int .i64 0, .int .i64 0, .int .u32 0, .int .u32 0, .int .i64 0, .int .i64 0, .int .i64 0, .slice none 0 0, .slice none 0 0] 37) := ⟨_, rfl⟩
  have hbW : Below w.heap.size w W := (by rw [hW]; exact (((Below.refl _ _).alloc (Nat.le_refl _) _).alloc (by simp) _).alloc (by simp; omega) _)
  have hWs : W.heap.size = w.heap.size + 3 := (by rw [hW]; simp)
  have B0 : BlkV W w.heap.size 26 [.int .i64 p.st, .int .i64 p.port, .int .i64 p.to, .int .u32 p.fi, .int .u32 p.un, .int .u32 p.ne, .int .u32 p.wa, .int .i64 p.wi, .int .i64 p.ot, .slice p.d.A p.d.n p.d.c, .slice p.g.A p.g.n p.g.c] := (by rw [hW]; exact ((BlkV.new w _ _).alloc _).alloc _)
  have B1 : BlkV W (w.heap.size + 1) 26 [.int .i64 0, .int .i64 0, .int .i64 0, .int .u32 0, .int .u32 0, .int .u32 0, .int .u32 0, .int .i64 0, .int .i64 0, .slice none 0 0, .slice none 0 0] := (by rw [hW]; exact (BlkV.new_at (w.alloc (.cells #[.int .i64 p.st, .int .i64 p.port, .int .i64 p.to, .int .u32 p.fi, .int .u32 p.un, .int .u32 p.ne, .int .u32 p.wa, .int .i64 p.wi, .int .i64 p.ot, .slice p.d.A p.d.n p.d.c, .slice p.g.A p.g.n p.g.c] 26)) _ _ (by simp)).alloc _)
  have B2 : BlkV W (w.heap.size + 1 + 1) 37 [.int .i64 0, .int .i64 0, .int .u32 0, .int .u32 0, .int .i64 0, .int .i64 0, .int .i64 0, .slice none 0 0, .slice none 0 0] := (by rw [hW]; exact (BlkV.new_at ((w.alloc (.cells #[.int .i64 p.st, .int .i64 p.port, .int .i64 p.to, .int .u32 p.fi, .int .u32 p.un, .int .u32 p.ne, .int .u32 p.wa, .int .i64 p.wi, .int .i64 p.ot, .slice p.d.A p.d.n p.d.c, .slice p.g.A p.g.n p.g.c] 26)).alloc (.cells #[.int .i64 0, .int .i64 0, .int .i64 0, .int .u32 0, .int .u32 0, .int .u32 0, .int .u32 0, .int .i64 0, .int .i64 0, .slice none 0 0, .slice none 0 0] 26)) _ _ (by simp)))
  have HC := Lib.hid (psegment_spec p 18 p.fi p.wa Peer.nil W.drew (Peer.nil_ok _) (by show (0 : Nat) ≤ _; omega))
  have KF : Hid (∀ w' : World, BlkV w' w.heap.size 26 [.int .i64 p.st, .int .i64 p.port, .int .i64 p.to, .int .u32 p.fi, .int .u32 p.un, .int .u32 p.ne, .int .u32 p.wa, .int .i64 p.wi, .int .i64 p.ot, .slice p.d.A p.d.n p.d.c, .slice p.g.A p.g.n p.g.c] → (w'.cell? ⟨w.heap.size, 0, none⟩ = some (.int .i64 p.st) ∧ w'.cell? ⟨w.heap.size, 1, none⟩ = some (.int .i64 p.port) ∧ w'.cell? ⟨w.heap.size, 2, none⟩ = some (.int .i64 p.to) ∧ w'.cell? ⟨w.heap.size, 3, none⟩ = some (.int .u32 p.fi) ∧ w'.cell? ⟨w.heap.size, 4, none⟩ = some (.int .u32 p.un) ∧ w'.cell? ⟨w.heap.size, 5, none⟩ = some (.int .u32 p.ne) ∧ w'.cell? ⟨w.heap.size, 6, none⟩ = some (.int .u32 p.wa) ∧ w'.cell? ⟨w.heap.size, 7, none⟩ = some (.int .i64 p.wi) ∧ w'.cell? ⟨w.heap.size, 8, none⟩ = some (.int .i64 p.ot) ∧ w'.cell? ⟨w.heap.size, 9, none⟩ = some (.slice p.d.A p.d.n p.d.c) ∧ w'.cell? ⟨w.heap.size, 10, none⟩ = some (.slice p.g.A p.g.n p.g.c))) := Lib.hid fun w' h => cells11 h
  obtain ⟨c0, c1, c2, c3, c4, c5, c6, c7, c8, c9, c10⟩ := KF.out W B0
  go_enter Try.func31, Try.ntmps31
  go_upto_region 1 with (fail)
  rw [← hW]
  clear hW
  go_wp2_with fail
  refine wp_region_held_drew (S := fun w' => (w'.cell? ⟨w.heap.size, 0, none⟩ = some (.int .i64 p.st) ∧ w'.cell? ⟨w.heap.size, 1, none⟩ = some (.int .i64 p.port) ∧ w'.cell? ⟨w.heap.size, 2, none⟩ = some (.int .i64 p.to) ∧ w'.cell? ⟨w.heap.size, 3, none⟩ = some (.int .u32 p.fi) ∧ w'.cell? ⟨w.heap.size, 4, none⟩ = some (.int .u32 p.un) ∧ w'.cell? ⟨w.heap.size, 5, none⟩ = some (.int .u32 p.ne) ∧ w'.cell? ⟨w.heap.size, 6, none⟩ = some (.int .u32 p.wa) ∧ w'.cell? ⟨w.heap.size, 7, none⟩ = some (.int .i64 p.wi) ∧ w'.cell? ⟨w.heap.size, 8, none⟩ = some (.int .i64 p.ot) ∧ w'.cell? ⟨w.heap.size, 9, none⟩ = some (.slice p.d.A p.d.n p.d.c) ∧ w'.cell? ⟨w.heap.size, 10, none⟩ = some (.slice p.g.A p.g.n p.g.c))) (by kernel_rfl) (KF.out _ B0) (fun hHeld => ?_)
  refine wpAnyH_takeD (i := 0) (some 20) (v := ?_) rfl rfl (by kernel_rfl) (by kernel_rfl) (by kernel_rfl) (fun _ _ _ h => h) (Or.inl ⟨by rfl, ?_⟩) (by assumption) ?_
  rotate_left
  · (intro w hSw; (try dsimp only at hSw); go_simp; try with_reducible rfl)
  try simp only [Act.put, List.setIfInBounds_toArray, List.set_cons_zero, List.set_cons_succ]
  refine wpAnyH_takeD (i := 1) (some 21) (v := ?_) rfl rfl (by kernel_rfl) (by kernel_rfl) (by kernel_rfl) (fun _ _ _ h => h) (Or.inl ⟨by rfl, ?_⟩) (by assumption) ?_
  rotate_left
  · (intro w hSw; (try dsimp only at hSw); go_simp; try with_reducible rfl)
  try simp only [Act.put, List.setIfInBounds_toArray, List.set_cons_zero, List.set_cons_succ]
  refine wpAnyH_takeD (i := 2) (some 22) (v := ?_) rfl rfl (by kernel_rfl) (by kernel_rfl) (by kernel_rfl) (fun _ _ _ h => h) (Or.inl ⟨by rfl, ?_⟩) (by assumption) ?_
  rotate_left
  · (intro w hSw; (try dsimp only at hSw); go_simp; try with_reducible rfl)
  try simp only [Act.put, List.setIfInBounds_toArray, List.set_cons_zero, List.set_cons_succ]
  refine wpAnyH_takeD (i := 3) (some 23) (v := ?_) rfl rfl (by kernel_rfl) (by kernel_rfl) (by kernel_rfl) (fun _ _ _ h => h) (Or.inl ⟨by rfl, ?_⟩) (by assumption) ?_
  rotate_left
  · (intro w hSw; (try dsimp only at hSw); go_simp; try with_reducible rfl)
  try simp only [Act.put, List.setIfInBounds_toArray, List.set_cons_zero, List.set_cons_succ]
  refine wpAnyH_takeD (i := 4) (some 24) (v := ?_) rfl rfl (by kernel_rfl) (by kernel_rfl) (by kernel_rfl) (fun _ _ _ h => h) (Or.inl ⟨by rfl, ?_⟩) (by assumption) ?_
  rotate_left
  · (intro w hSw; (try dsimp only at hSw); go_simp; try with_reducible rfl)
  try simp only [Act.put, List.setIfInBounds_toArray, List.set_cons_zero, List.set_cons_succ]
  refine wpAnyH_takeD (i := 5) (some 25) (v := ?_) rfl rfl (by kernel_rfl) (by kernel_rfl) (by kernel_rfl) (fun _ _ _ h => h) (Or.inl ⟨by rfl, ?_⟩) (by assumption) ?_
  rotate_left
  · (intro w hSw; (try dsimp only at hSw); go_simp; try with_reducible rfl)
  try simp only [Act.put, List.setIfInBounds_toArray, List.set_cons_zero, List.set_cons_succ]
  refine wpAnyH_ready (rs := [6]) (by kernel_rfl) (by simp) ?_
  refine AllReadyH.cons (o := _) rfl (fun K hK => ?_) AllReadyH.nil
  go_simp
  refine HC.out.mono ?_
  rintro e w2 ⟨hb2, A2, k2, rfl, hown2⟩
  have B0' := (show BlkV W.drew _ _ _ from B0).below hb2
  have B1' := (show BlkV W.drew _ _ _ from B1).below hb2
  have B2' := (show BlkV W.drew _ _ _ from B2).below hb2
  go_wp2_with fail
  refine hK.out _ _ (KF.out _ B0') (fun hHeld => ?_)
  clear hK K
  try simp only [Act.put, List.setIfInBounds_toArray, List.set_cons_zero, List.set_cons_succ]
  simp only [Peer.nil] at hown2 ⊢
  refine wpAnyH_ready (rs := [7]) (by kernel_rfl) (by simp) ?_
  refine AllReadyH.cons (o := _) rfl (fun K hK => ?_) AllReadyH.nil
  rw [if_pos (by rfl)]
  refine wp_stB 26 _ _ rfl (by rfl) (by rfl) _ (by rfl) B1' (by rfl) (peer_size (by rfl)) (by rfl) ?_
  intro wN BN hO
  refine hK.out _ _ (KF.out _ (B0'.only hO (by omega))) (fun hHeld => ?_)
  clear hK K
  try simp only [Act.put, List.setIfInBounds_toArray, List.set_cons_zero, List.set_cons_succ]
  refine wpAnyH_ready (rs := [8]) (by kernel_rfl) (by simp) ?_
  refine AllReadyH.cons (o := _) rfl (fun K hK => ?_) AllReadyH.nil
  rw [if_pos (by rfl)]
  refine wp_stB 37 _ _ rfl (by rfl) (by rfl) _ (by rfl) (B2'.only hO (by omega)) (by rfl) (tcp_size (by rfl)) (by rfl) ?_
  intro wM BM hM
  refine hK.out _ _ (KF.out _ ((B0'.only hO (by omega)).only hM (by omega))) (fun hHeld => ?_)
  clear hK K
  try simp only [Act.put, List.setIfInBounds_toArray, List.set_cons_zero, List.set_cons_succ]
  refine wpAnyH_takeD (i := 9) (some 6) (v := ?_) rfl rfl (by kernel_rfl) (by kernel_rfl) (by kernel_rfl) (fun _ _ _ h => h) (Or.inl ⟨by rfl, ?_⟩) (by assumption) ?_
  rotate_left
  · (intro w hSw; (try dsimp only at hSw); go_simp; try with_reducible rfl)
  try simp only [Act.put, List.setIfInBounds_toArray, List.set_cons_zero, List.set_cons_succ]
  refine wpAnyH_done (by kernel_rfl) ?_ _
  have BN' := BN.only hM (by omega)
  obtain ⟨r0, r1, r2, r3, r4, r5, r6, r7, r8, r9, r10⟩ := cells11 BN'
  obtain ⟨t0, t1, t2, t3, t4, t5, t6, t7, t8⟩ := cells9 BM
  have hWd : W.drew.heap.size = w.heap.size + 3 := hWs
  clear c0 c1 c2 c3 c4 c5 c6 c7 c8 c9 c10 KF HC B0 B1 B2 B0' B1' B2' hHeld
  go_wp2_with fail
  exact bodyPost_ret (v := .tuple #[.agg #[.int .i64 p.st, .int .i64 p.port, .int .i64 p.to, .int .u32 p.fi, .int .u32 p.un, .int .u32 p.ne, .int .u32 p.wa, .int .i64 p.wi, .int .i64 p.ot, .slice p.d.A p.d.n p.d.c, .slice p.g.A p.g.n p.g.c], .agg #[.int .i64 p.port, .int .i64 p.to, .int .u32 p.fi, .int .u32 p.wa, .int .i64 18, .int .i64 p.wi, .int .i64 0, .slice none 0 0, .slice A2 0 k2], .bool true]) (by simp [results, Try.results31, go_sem, r0, r1, r2, r3, r4, r5, r6, r7, r8, r9, r10, t0, t1, t2, t3, t4, t5, t6, t7, t8]) rfl ⟨hM.bel (by omega) (hO.bel (by omega) (bel_then (bel_d hbW) hb2)), A2, k2, rfl, own_weak (own_only (own_only hown2 hO (by omega)) hM (by omega)) (by omega)⟩
def Peer.sfl (p : Peer.P) : Int := if p.st = 2 then 2 else 18
def Peer.sak (p : Peer.P) : Int := if p.st = 2 then 0 else p.wa
theorem psay_spec (p : Peer.P) (mss : Int) (w : World) (hst : p.st = 2 ∨ p.st = 3) : Calls Try.prog 31 #[.agg #[.int .i64 p.st, .int .i64 p.port, .int .i64 p.to, .int .u32 p.fi, .int .u32 p.un, .int .u32 p.ne, .int .u32 p.wa, .int .i64 p.wi, .int .i64 p.ot, .slice p.d.A p.d.n p.d.c, .slice p.g.A p.g.n p.g.c], .int .i64 mss] w (SayR p (Peer.sfl p) p.fi (Peer.sak p) w) := by
  unfold Peer.sfl Peer.sak
  rcases hst with h | h
  · rw [if_pos h, if_pos h]; exact psay2_spec p mss w h
  · rw [if_neg (by omega), if_neg (by omega)]; exact psay3_spec p mss w h
/-- a peer with bytes of its own, and what it says -/
def SayC (p : Peer.P) (fl num ack : Int) (w : World) (e : Ending) (w' : World) : Prop :=
  Below w.heap.size w w' ∧ ∃ A c B k D m, e = .returned (.tuple #[.agg #[.int .i64 p.st, .int .i64 p.port, .int .i64 p.to, .int .u32 p.fi, .int .u32 p.un, .int .u32 p.ne, .int .u32 p.wa, .int .i64 p.wi, .int .i64 p.ot, .slice A p.d.n c, .slice B p.g.n k], .agg #[.int .i64 p.port, .int .i64 p.to, .int .u32 num, .int .u32 ack, .int .i64 fl, .int .i64 p.wi, .int .i64 0, .slice none 0 0, .slice D 0 m], .bool true]) ∧ w'.ownsRow w.heap.size 5 1 (.slice A p.d.n c) p.d.n (bs p.d.l) ∧ w'.ownsRow w.heap.size 5 1 (.slice B p.g.n k) p.g.n (bs p.g.l) ∧ w'.ownsRow w.heap.size 5 1 (.slice D 0 m) 0 []
def Peer.P.with_ (p : Peer.P) (A : Option Addr) (c : Nat) (B : Option Addr) (k : Nat) : Peer.P := ⟨p.st, p.port, p.to, p.fi, p.un, p.ne, p.wa, p.wi, p.ot, ⟨A, p.d.n, c, p.d.l⟩, ⟨B, p.g.n, k, p.g.l⟩⟩
theorem Peer.right_with (p : Peer.P) (A : Option Addr) (c : Nat) (B : Option Addr) (k : Nat) : Peer.right (p.with_ A c B k) = Peer.right p := rfl
theorem Peer.sak_mk (p : Peer.P) (a b : Peer.Sl) : Peer.sak ⟨p.st, p.port, p.to, p.fi, p.un, p.ne, p.wa, p.wi, p.ot, a, b⟩ = Peer.sak p := rfl
theorem Peer.sfl_mk (p : Peer.P) (a b : Peer.Sl) : Peer.sfl ⟨p.st, p.port, p.to, p.fi, p.un, p.ne, p.wa, p.wi, p.ot, a, b⟩ = Peer.sfl p := rfl
set_option maxHeartbeats 2000000 in
theorem pSay_spec (p : Peer.P) (mss : Int) (w : World) (hp : p.ok w) (hd : p.d.n ≤ 140737488355328) (hg : p.g.n ≤ 140737488355328) (hst : p.st = 2 ∨ p.st = 3) (hr : Peer.right p = true) (hm : 1 ≤ mss) :
    Calls Try.prog 18 #[.agg #[.int .i64 p.st, .int .i64 p.port, .int .i64 p.to, .int .u32 p.fi, .int .u32 p.un, .int .u32 p.ne, .int .u32 p.wa, .int .i64 p.wi, .int .i64 p.ot, .slice p.d.A p.d.n p.d.c, .slice p.g.A p.g.n p.g.c], .int .i64 mss] w (SayC p (Peer.sfl p) p.fi (Peer.sak p) w) := by
  obtain ⟨W, hW⟩ : ∃ W, W = ((w.alloc (.cells #[.int .i64 p.st, .int .i64 p.port, .int .i64 p.to, .int .u32 p.fi, .int .u32 p.un, .int .u32 p.ne, .int .u32 p.wa, .int .i64 p.wi, .int .i64 p.ot, .slice p.d.A p.d.n p.d.c, .slice p.g.A p.g.n p.g.c] 26)).alloc (.cells #[.int .i64 0, .int .i64 0, .int .i64 0, .int .u32 0, .int .u32 0, .int .u32 0, .int .u32 0, .int .i64 0, .int .i64 0, .slice none 0 0, .slice none 0 0] 26)).alloc (.cells #[.int .i64 0, .int .i64 0, .int .u32 0, .int .u32 0, .int .i64 0, .int .i64 0, .int .i64 0, .slice none 0 0, .slice none 0 0] 37) := ⟨_, rfl⟩
  have hbW : Below w.heap.size w W := (by rw [hW]; exact (((Below.refl _ _).alloc (Nat.le_refl _) _).alloc (by simp) _).alloc (by simp; omega) _)
  have hWs : W.heap.size = w.heap.size + 3 := (by rw [hW]; simp)
  have B0 : BlkV W w.heap.size 26 [.int .i64 p.st, .int .i64 p.port, .int .i64 p.to, .int .u32 p.fi, .int .u32 p.un, .int .u32 p.ne, .int .u32 p.wa, .int .i64 p.wi, .int .i64 p.ot, .slice p.d.A p.d.n p.d.c, .slice p.g.A p.g.n p.g.c] := (by rw [hW]; exact ((BlkV.new w _ _).alloc _).alloc _)
  have B1 : BlkV W (w.heap.size + 1) 26 [.int .i64 0, .int .i64 0, .int .i64 0, .int .u32 0, .int .u32 0, .int .u32 0, .int .u32 0, .int .i64 0, .int .i64 0, .slice none 0 0, .slice none 0 0] := (by rw [hW]; exact (BlkV.new_at (w.alloc (.cells #[.int .i64 p.st, .int .i64 p.port, .int .i64 p.to, .int .u32 p.fi, .int .u32 p.un, .int .u32 p.ne, .int .u32 p.wa, .int .i64 p.wi, .int .i64 p.ot, .slice p.d.A p.d.n p.d.c, .slice p.g.A p.g.n p.g.c] 26)) _ _ (by simp)).alloc _)
  have B2 : BlkV W (w.heap.size + 1 + 1) 37 [.int .i64 0, .int .i64 0, .int .u32 0, .int .u32 0, .int .i64 0, .int .i64 0, .int .i64 0, .slice none 0 0, .slice none 0 0] := (by rw [hW]; exact (BlkV.new_at ((w.alloc (.cells #[.int .i64 p.st, .int .i64 p.port, .int .i64 p.to, .int .u32 p.fi, .int .u32 p.un, .int .u32 p.ne, .int .u32 p.wa, .int .i64 p.wi, .int .i64 p.ot, .slice p.d.A p.d.n p.d.c, .slice p.g.A p.g.n p.g.c] 26)).alloc (.cells #[.int .i64 0, .int .i64 0, .int .i64 0, .int .u32 0, .int .u32 0, .int .u32 0, .int .u32 0, .int .i64 0, .int .i64 0, .slice none 0 0, .slice none 0 0] 26)) _ _ (by simp)))
  have HC := Lib.hid (pcopied_spec p W (hp.below hbW) hd hg)
  have HST := Lib.hid hst
  have HRT := Lib.hid hr
  have hm1 : ¬ mss < 1 := by omega
  have hdn : p.d.n ≤ 9223372036854775806 := by omega
  clear hst hr hp hd hg
  go_enter Try.func18, Try.ntmps18
  go_upto_region 1 with (fail)
  rw [← hW]
  clear hW
  go_wp2_with (refine wpList_ldB 26 _ _ (by with_reducible rfl) rfl (by rfl) (by assumption) Try.underlying26 rfl (peer_size (by rfl)) ?_)
  refine HC.out.mono ?_
  rintro e w1 ⟨hb1, A, c, B, k, rfl, oA, oB⟩
  have B0' := B0.below hb1
  have B1' := B1.below hb1
  have B2' := B2.below hb1
  have OA := Lib.hid oA
  have OB := Lib.hid oB
  have HR := Lib.hid (fun w => pright_spec (p.with_ A c B k) w hdn)
  rw [Peer.right_with, HRT.out] at HR
  have HS := Lib.hid (fun w => psay_spec (p.with_ A c B k) mss w HST.out)
  clear B0 B1 B2 oA oB HC
  go_wp2_with (first | (refine wpList_stB 26 _ _ (by with_reducible rfl) rfl (by rfl) _ (by rfl) (by assumption) (by rfl) (peer_size (by rfl)) (by rfl) ?_; intro wN BN hO) | (refine wpList_ldB 26 _ _ (by with_reducible rfl) rfl (by rfl) (by assumption) Try.underlying26 rfl (peer_size (by rfl)) ?_))
  have B1 := B1'.only hO (by omega)
  have B2 := B2'.only hO (by omega)
  have hbN := hO.bel (by omega) (bel_then hbW hb1)
  have hsN := hO.size
  have hs1 := hb1.size
  have OA2 := Lib.hid (own_only OA.out hO (by omega))
  have OB2 := Lib.hid (own_only OB.out hO (by omega))
  clear B0' B1' B2' OA OB
  refine (HR.out wN).mono ?_
  rintro e w3 ⟨rfl, hb3⟩
  have B0' := BN.below hb3
  have B1' := B1.below hb3
  have B2' := B2.below hb3
  clear BN B1 B2
  go_wp2_with (first | (refine wpList_ldB 26 _ _ (by with_reducible rfl) rfl (by rfl) (by assumption) Try.underlying26 rfl (peer_size (by rfl)) ?_))
  refine (HS.out w3).mono ?_
  rintro e w4 ⟨hb4, D, m, rfl, oD⟩
  have B1 := B1'.below hb4
  have B2 := B2'.below hb4
  have hb34 := bel_then hb3 hb4
  have OA3 := Lib.hid (own_below OA2.out hb34)
  have OB3 := Lib.hid (own_below OB2.out hb34)
  have hs3 := hb34.size
  have hs4 := hb3.size
  have OD := Lib.hid oD
  clear B0' B1' B2' OA2 OB2 oD
  go_wp2_with (first | (refine wpList_stB 26 _ _ (by with_reducible rfl) rfl (by rfl) _ (by rfl) (by assumption) (by rfl) (peer_size (by rfl)) (by rfl) ?_; intro wN BN hO) | (refine wpList_stB 37 _ _ (by with_reducible rfl) rfl (by rfl) _ (by rfl) (B2.only hO (by omega)) (by rfl) (tcp_size (by rfl)) (by rfl) ?_; intro wM BM hM))
  have BN' := BN.only hM (by omega)
  obtain ⟨r0, r1, r2, r3, r4, r5, r6, r7, r8, r9, r10⟩ := cells11 BN'
  obtain ⟨t0, t1, t2, t3, t4, t5, t6, t7, t8⟩ := cells9 BM
  clear B1 B2 BN BM BN'
  exact bodyPost_ret (v := .tuple #[.agg #[.int .i64 p.st, .int .i64 p.port, .int .i64 p.to, .int .u32 p.fi, .int .u32 p.un, .int .u32 p.ne, .int .u32 p.wa, .int .i64 p.wi, .int .i64 p.ot, .slice A p.d.n c, .slice B p.g.n k], .agg #[.int .i64 p.port, .int .i64 p.to, .int .u32 p.fi, .int .u32 (Peer.sak p), .int .i64 (Peer.sfl p), .int .i64 p.wi, .int .i64 0, .slice none 0 0, .slice D 0 m], .bool true]) (by simp [results, Try.results18, go_sem, Peer.P.with_, Peer.sak_mk, Peer.sfl_mk, r0, r1, r2, r3, r4, r5, r6, r7, r8, r9, r10, t0, t1, t2, t3, t4, t5, t6, t7, t8]) rfl ⟨hM.bel (by omega) (hO.bel (by omega) (bel_then hbN hb34)), A, c, B, k, D, m, rfl, own_weak (own_only (own_only OA3.out hO (by omega)) hM (by omega)) (by omega), own_weak (own_only (own_only OB3.out hO (by omega)) hM (by omega)) (by omega), own_weak (own_only (own_only OD.out hO (by omega)) hM (by omega)) (by omega)⟩
end Go.Proofs.Ytihhcalgjkkalaa
