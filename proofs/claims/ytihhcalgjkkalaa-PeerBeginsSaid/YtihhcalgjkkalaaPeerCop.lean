/- The walks of peer.nod, copied. -/
import Derived.Test.YtihhcalgjkkalaaPeerSay
namespace Go.Proofs.Ytihhcalgjkkalaa
open Go.RowKit
set_option linter.unusedVariables false
set_option linter.unusedSimpArgs false
set_option maxHeartbeats 1000000 in
theorem pnod_spec (p : Peer.P) (w : World) : Calls Try.prog 34 #[.agg #[.int .i64 p.st, .int .i64 p.port, .int .i64 p.to, .int .u32 p.fi, .int .u32 p.un, .int .u32 p.ne, .int .u32 p.wa, .int .i64 p.wi, .int .i64 p.ot, .slice p.d.A p.d.n p.d.c, .slice p.g.A p.g.n p.g.c]] w (SegR p 16 p.ne p.wa Peer.nil w) := by
  obtain ⟨W, hW⟩ : ∃ W, W = (w.alloc (.cells #[.int .i64 p.st, .int .i64 p.port, .int .i64 p.to, .int .u32 p.fi, .int .u32 p.un, .int .u32 p.ne, .int .u32 p.wa, .int .i64 p.wi, .int .i64 p.ot, .slice p.d.A p.d.n p.d.c, .slice p.g.A p.g.n p.g.c] 26)).alloc (.cells #[.int .i64 0, .int .i64 0, .int .u32 0, .int .u32 0, .int .i64 0, .int .i64 0, .int .i64 0, .slice none 0 0, .slice none 0 0] 37) := ⟨_, rfl⟩
  have hbW : Below w.heap.size w W := by rw [hW]; exact ((Below.refl _ _).alloc (Nat.le_refl _) _).alloc (by simp) _
  have hWs : W.heap.size = w.heap.size + 2 := by rw [hW]; simp
  have B0 : BlkV W w.heap.size 26 [.int .i64 p.st, .int .i64 p.port, .int .i64 p.to, .int .u32 p.fi, .int .u32 p.un, .int .u32 p.ne, .int .u32 p.wa, .int .i64 p.wi, .int .i64 p.ot, .slice p.d.A p.d.n p.d.c, .slice p.g.A p.g.n p.g.c] := by rw [hW]; exact (BlkV.new w _ _).alloc _
  have B1 : BlkV W (w.heap.size + 1) 37 [.int .i64 0, .int .i64 0, .int .u32 0, .int .u32 0, .int .i64 0, .int .i64 0, .int .i64 0, .slice none 0 0, .slice none 0 0] := by rw [hW]; exact BlkV.new_at (w.alloc (.cells #[.int .i64 p.st, .int .i64 p.port, .int .i64 p.to, .int .u32 p.fi, .int .u32 p.un, .int .u32 p.ne, .int .u32 p.wa, .int .i64 p.wi, .int .i64 p.ot, .slice p.d.A p.d.n p.d.c, .slice p.g.A p.g.n p.g.c] 26)) _ _ (by simp)
  have HC := Lib.hid (psegment_spec p 16 p.ne p.wa Peer.nil W (Peer.nil_ok W) (by show (0 : Nat) ≤ _; omega))
  have c5 := cellF B0 5 rfl
  have c6 := cellF B0 6 rfl
  go_enter Try.func34, Try.ntmps34
  go_upto_region 1 with (fail)
  rw [← hW]
  clear hW
  go_wp2_with (refine wpList_ldB 26 _ _ (by with_reducible rfl) rfl (by rfl) (by assumption) Try.underlying26 rfl (peer_size (by rfl)) ?_)
  refine HC.out.mono ?_
  rintro e w1 ⟨hb1, A2, k2, rfl, hown⟩
  have B1' := B1.below hb1
  clear B1
  have HO := Lib.hid hown
  clear hown HC
  simp only [Peer.nil]
  go_wp2_with (first | (refine wpList_stB 37 _ _ (by with_reducible rfl) rfl (by rfl) _ (by rfl) (by assumption) (by rfl) (tcp_size (by rfl)) (by rfl) ?_; intro wN BN hO))
  obtain ⟨r0, r1, r2, r3, r4, r5, r6, r7, r8⟩ := cells9 BN
  exact bodyPost_ret (v := .agg #[.int .i64 p.port, .int .i64 p.to, .int .u32 p.ne, .int .u32 p.wa, .int .i64 16, .int .i64 p.wi, .int .i64 0, .slice none 0 0, .slice A2 0 k2]) (by simp [results, Try.results34, go_sem, *]) rfl ⟨hO.bel (by omega) (bel_then hbW hb1), A2, k2, rfl, own_weak (own_only HO.out hO (by omega)) (by omega)⟩
def CopR (p : Peer.P) (w : World) (e : Ending) (w' : World) : Prop :=
  Below w.heap.size w w' ∧ ∃ A c B k, e = .returned (.agg #[.int .i64 p.st, .int .i64 p.port, .int .i64 p.to, .int .u32 p.fi, .int .u32 p.un, .int .u32 p.ne, .int .u32 p.wa, .int .i64 p.wi, .int .i64 p.ot, .slice A p.d.n c, .slice B p.g.n k]) ∧ w'.ownsRow w.heap.size 5 1 (.slice A p.d.n c) p.d.n (bs p.d.l) ∧ w'.ownsRow w.heap.size 5 1 (.slice B p.g.n k) p.g.n (bs p.g.l)
/-- the two rows lie in blocks of their own -/
def apart (u v : Value) : Prop := ∀ g, u.ownBlock = some g → v.ownBlock ≠ some g
def CopR2 (p : Peer.P) (w : World) (e : Ending) (w' : World) : Prop :=
  Below w.heap.size w w' ∧ ∃ A c B k, e = .returned (.agg #[.int .i64 p.st, .int .i64 p.port, .int .i64 p.to, .int .u32 p.fi, .int .u32 p.un, .int .u32 p.ne, .int .u32 p.wa, .int .i64 p.wi, .int .i64 p.ot, .slice A p.d.n c, .slice B p.g.n k]) ∧ w'.ownsRow w.heap.size 5 1 (.slice A p.d.n c) p.d.n (bs p.d.l) ∧ w'.ownsRow w.heap.size 5 1 (.slice B p.g.n k) p.g.n (bs p.g.l) ∧ apart (.slice A p.d.n c) (.slice B p.g.n k)
set_option maxHeartbeats 2000000 in
theorem pcopied2_spec (p : Peer.P) (w : World) (hp : p.d.ok w ∧ p.g.ok w) (hd : p.d.n ≤ 140737488355328) (hg : p.g.n ≤ 140737488355328) :
    Calls Try.prog 21 #[.agg #[.int .i64 p.st, .int .i64 p.port, .int .i64 p.to, .int .u32 p.fi, .int .u32 p.un, .int .u32 p.ne, .int .u32 p.wa, .int .i64 p.wi, .int .i64 p.ot, .slice p.d.A p.d.n p.d.c, .slice p.g.A p.g.n p.g.c]] w (CopR2 p w) := by
  obtain ⟨W, hW⟩ : ∃ W, W = (w.alloc (.cells #[.int .i64 p.st, .int .i64 p.port, .int .i64 p.to, .int .u32 p.fi, .int .u32 p.un, .int .u32 p.ne, .int .u32 p.wa, .int .i64 p.wi, .int .i64 p.ot, .slice p.d.A p.d.n p.d.c, .slice p.g.A p.g.n p.g.c] 26)).alloc (.cells #[.int .i64 0, .int .i64 0, .int .i64 0, .int .u32 0, .int .u32 0, .int .u32 0, .int .u32 0, .int .i64 0, .int .i64 0, .slice none 0 0, .slice none 0 0] 26) := ⟨_, rfl⟩
  have hbW : Below w.heap.size w W := by rw [hW]; exact ((Below.refl _ _).alloc (Nat.le_refl _) _).alloc (by simp) _
  have hWs : W.heap.size = w.heap.size + 2 := by rw [hW]; simp
  have B0 : BlkV W w.heap.size 26 [.int .i64 p.st, .int .i64 p.port, .int .i64 p.to, .int .u32 p.fi, .int .u32 p.un, .int .u32 p.ne, .int .u32 p.wa, .int .i64 p.wi, .int .i64 p.ot, .slice p.d.A p.d.n p.d.c, .slice p.g.A p.g.n p.g.c] := by rw [hW]; exact (BlkV.new w _ _).alloc _
  have B1 : BlkV W (w.heap.size + 1) 26 [.int .i64 0, .int .i64 0, .int .i64 0, .int .u32 0, .int .u32 0, .int .u32 0, .int .u32 0, .int .i64 0, .int .i64 0, .slice none 0 0, .slice none 0 0] := by rw [hW]; exact BlkV.new_at (w.alloc (.cells #[.int .i64 p.st, .int .i64 p.port, .int .i64 p.to, .int .u32 p.fi, .int .u32 p.un, .int .u32 p.ne, .int .u32 p.wa, .int .i64 p.wi, .int .i64 p.ot, .slice p.d.A p.d.n p.d.c, .slice p.g.A p.g.n p.g.c] 26)) _ _ (by simp)
  have KF : Hid (∀ w' : World, Below W.heap.size W w' → w'.cell? ⟨w.heap.size, 9, none⟩ = some (.slice p.d.A p.d.n p.d.c) ∧ w'.cell? ⟨w.heap.size, 10, none⟩ = some (.slice p.g.A p.g.n p.g.c) ∧ w'.frozen? ⟨w.heap.size, 9, none⟩ = false ∧ w'.frozen? ⟨w.heap.size, 10, none⟩ = false) := Lib.hid fun w' hb => ⟨(B0.below hb).cell rfl, (B0.below hb).cell rfl, (B0.below hb).unfrozen 9, (B0.below hb).unfrozen 10⟩
  have HC1 : Hid (∀ w' : World, Below W.heap.size W w' → Calls Try.prog 32 #[.slice p.d.A p.d.n p.d.c] w' (RetB w' 5 p.d.n p.d.l)) := Lib.hid fun w' hb => bytes_clone p.d.A p.d.n p.d.c p.d.l w' ((hp.1.rd.below hbW).below hb) hd
  have HC2 : Hid (∀ w' : World, Below W.heap.size W w' → Calls Try.prog 32 #[.slice p.g.A p.g.n p.g.c] w' (RetB w' 5 p.g.n p.g.l)) := Lib.hid fun w' hb => bytes_clone p.g.A p.g.n p.g.c p.g.l w' ((hp.2.rd.below hbW).below hb) hg
  obtain ⟨c9, c10, f9, f10⟩ := KF.out W (Below.refl _ _)
  have hbn0 : Below W.heap.size W W.drew := bel_d (Below.refl _ _)
  clear hp hd hg
  go_enter Try.func21, Try.ntmps21
  go_upto_region 1 with (fail)
  rw [← hW]
  clear hW
  go_wp2_with fail
  refine wp_region_held_drew (S := fun _ => True) (by kernel_rfl) trivial (fun hHeld => ?_)
  refine wpAnyH_takeD (i := 0) (some 3) (v := ?_) rfl rfl (by kernel_rfl) (by kernel_rfl) (by kernel_rfl) (fun _ _ _ h => h) (Or.inl ⟨by rfl, ?_⟩) (by assumption) ?_
  rotate_left
  · (intro w hSw; (try dsimp only at hSw); go_simp; try with_reducible rfl)
  try simp only [Act.put, List.setIfInBounds_toArray, List.set_cons_zero, List.set_cons_succ]
  refine wpAnyH_takeD (i := 3) (some 6) (v := ?_) rfl rfl (by kernel_rfl) (by kernel_rfl) (by kernel_rfl) (fun _ _ _ h => h) (Or.inl ⟨by rfl, ?_⟩) (by assumption) ?_
  rotate_left
  · (intro w hSw; (try dsimp only at hSw); go_simp; try with_reducible rfl)
  try simp only [Act.put, List.setIfInBounds_toArray, List.set_cons_zero, List.set_cons_succ]
  refine wpAnyH_ready (rs := [1, 4]) (by kernel_rfl) (by simp) ?_
  (refine AllReadyH.cons (o := _) rfl (fun K hK => ?pa) (AllReadyH.cons (o := _) rfl (fun K hK => ?pb) AllReadyH.nil))
  case' pa =>
    (go_simp; refine hK.out _ _ trivial (fun hHeld => ?_); clear hK K; try simp only [Act.put, List.setIfInBounds_toArray, List.set_cons_zero, List.set_cons_succ])
    refine wpAnyH_ready (rs := [2, 4]) (by kernel_rfl) (by simp) ?_
    (refine AllReadyH.cons (o := _) rfl (fun K hK => ?pc) (AllReadyH.cons (o := _) rfl (fun K hK => ?pd) AllReadyH.nil))
    case' pc =>
      (go_simp; refine (HC1.out _ hbn0).mono ?_; rintro e w2 ⟨A2, k2, rfl, hown2, hb2⟩; have hbn1 := bel_then hbn0 hb2; obtain ⟨c9, c10, f9, f10⟩ := KF.out w2 hbn1; go_wp2_with fail; refine hK.out _ _ trivial (fun hHeld => ?_); clear hK K; try simp only [Act.put, List.setIfInBounds_toArray, List.set_cons_zero, List.set_cons_succ])
      refine wpAnyH_ready (rs := [4]) (by kernel_rfl) (by simp) ?_
      (refine AllReadyH.cons (o := _) rfl (fun K hK => ?_) AllReadyH.nil)
      (go_simp; refine hK.out _ _ trivial (fun hHeld => ?_); clear hK K; try simp only [Act.put, List.setIfInBounds_toArray, List.set_cons_zero, List.set_cons_succ])
    case' pd =>
      (go_simp; refine hK.out _ _ trivial (fun hHeld => ?_); clear hK K; try simp only [Act.put, List.setIfInBounds_toArray, List.set_cons_zero, List.set_cons_succ])
      refine wpAnyH_ready (rs := [2]) (by kernel_rfl) (by simp) ?_
      (refine AllReadyH.cons (o := _) rfl (fun K hK => ?_) AllReadyH.nil)
      (go_simp; refine (HC1.out _ hbn0).mono ?_; rintro e w2 ⟨A2, k2, rfl, hown2, hb2⟩; have hbn1 := bel_then hbn0 hb2; obtain ⟨c9, c10, f9, f10⟩ := KF.out w2 hbn1; go_wp2_with fail; refine hK.out _ _ trivial (fun hHeld => ?_); clear hK K; try simp only [Act.put, List.setIfInBounds_toArray, List.set_cons_zero, List.set_cons_succ])
  case' pb =>
    (go_simp; refine hK.out _ _ trivial (fun hHeld => ?_); clear hK K; try simp only [Act.put, List.setIfInBounds_toArray, List.set_cons_zero, List.set_cons_succ])
    refine wpAnyH_ready (rs := [1]) (by kernel_rfl) (by simp) ?_
    (refine AllReadyH.cons (o := _) rfl (fun K hK => ?_) AllReadyH.nil)
    (go_simp; refine hK.out _ _ trivial (fun hHeld => ?_); clear hK K; try simp only [Act.put, List.setIfInBounds_toArray, List.set_cons_zero, List.set_cons_succ])
    refine wpAnyH_ready (rs := [2]) (by kernel_rfl) (by simp) ?_
    (refine AllReadyH.cons (o := _) rfl (fun K hK => ?_) AllReadyH.nil)
    (go_simp; refine (HC1.out _ hbn0).mono ?_; rintro e w2 ⟨A2, k2, rfl, hown2, hb2⟩; have hbn1 := bel_then hbn0 hb2; obtain ⟨c9, c10, f9, f10⟩ := KF.out w2 hbn1; go_wp2_with fail; refine hK.out _ _ trivial (fun hHeld => ?_); clear hK K; try simp only [Act.put, List.setIfInBounds_toArray, List.set_cons_zero, List.set_cons_succ])
  all_goals
    refine wpAnyH_takeD (i := 6) (some 9) (v := ?_) rfl rfl (by kernel_rfl) (by kernel_rfl) (by kernel_rfl) (fun _ _ _ h => h) (Or.inl ⟨by rfl, ?_⟩) (by assumption) ?_
    rotate_left
    · (intro w hSw; (try dsimp only at hSw); go_simp; try with_reducible rfl)
    try simp only [Act.put, List.setIfInBounds_toArray, List.set_cons_zero, List.set_cons_succ]
    refine wpAnyH_ready (rs := [5]) (by kernel_rfl) (by simp) ?_
    (refine AllReadyH.cons (o := _) rfl (fun K hK => ?_) AllReadyH.nil)
    (go_simp; refine (HC2.out _ hbn1).mono ?_; rintro e w3 ⟨A3, k3, rfl, hown3, hb3⟩; have hbn2 := bel_then hbn1 hb3; have B0' := (show BlkV W.drew _ _ _ from B0).below (bel_then hb2 hb3); have B1' := (show BlkV W.drew _ _ _ from B1).below (bel_then hb2 hb3); go_wp2_with fail; refine hK.out _ _ trivial (fun hHeld => ?_); clear hK K; try simp only [Act.put, List.setIfInBounds_toArray, List.set_cons_zero, List.set_cons_succ])
    refine wpAnyH_ready (rs := [7]) (by kernel_rfl) (by simp) ?_
    (refine AllReadyH.cons (o := _) rfl (fun K hK => ?_) AllReadyH.nil)
    (rw [if_pos (by rfl)]; refine wp_stF 23 _ _ 9 (.slice A2 p.d.n k2) rfl (by rfl) (by rfl) (by rfl) B0' (by simp) (by kernel_rfl) rfl ?_; intro wF BF0 hOF; refine hK.out _ _ trivial (fun hHeld => ?_); clear hK K; try simp only [Act.put, List.setIfInBounds_toArray, List.set_cons_zero, List.set_cons_succ])
    refine wpAnyH_takeD (i := 8) (some 10) (v := ?_) rfl rfl (by kernel_rfl) (by kernel_rfl) (by kernel_rfl) (fun _ _ _ h => h) (Or.inl ⟨by rfl, ?_⟩) (by assumption) ?_
    rotate_left
    · (intro w hSw; (try dsimp only at hSw); go_simp; try with_reducible rfl)
    try simp only [Act.put, List.setIfInBounds_toArray, List.set_cons_zero, List.set_cons_succ]
    refine wpAnyH_ready (rs := [9]) (by kernel_rfl) (by simp) ?_
    (refine AllReadyH.cons (o := _) rfl (fun K hK => ?_) AllReadyH.nil)
    (rw [if_pos (by rfl)]; refine wp_stF 23 _ _ 10 (.slice A3 p.g.n k3) rfl (by rfl) (by rfl) (by rfl) BF0 (by simp) (by kernel_rfl) rfl ?_; intro wG BG0 hOG; refine hK.out _ _ trivial (fun hHeld => ?_); clear hK K; try simp only [Act.put, List.setIfInBounds_toArray, List.set_cons_zero, List.set_cons_succ])
    refine wpAnyH_done (by kernel_rfl) ?_ _
    have BG := BlkV.fit BG0 (m := [.int .i64 p.st, .int .i64 p.port, .int .i64 p.to, .int .u32 p.fi, .int .u32 p.un, .int .u32 p.ne, .int .u32 p.wa, .int .i64 p.wi, .int .i64 p.ot, .slice A2 p.d.n k2, .slice A3 p.g.n k3]) rfl
    have B1G := (B1'.only hOF (by omega)).only hOG (by omega)
    have hbG := hOG.bel (by omega) (hOF.bel (by omega) (bel_then (bel_then (bel_d hbW) hb2) hb3))
    have hs2 := hb2.size
    have hs3 := hb3.size
    have hWs' : W.drew.heap.size = w.heap.size + 2 := hWs
    have o2 := own_only (own_only (own_below hown2 hb3) hOF (by omega)) hOG (by omega)
    have o3 := own_only (own_only hown3 hOF (by omega)) hOG (by omega)
    clear B0 B1 B0' B1' BF0 BG0 KF HC1 HC2
    go_wp2_with (first | (refine wpList_ldB 26 _ _ (by with_reducible rfl) rfl (by rfl) (by assumption) Try.underlying26 rfl (peer_size (by rfl)) ?_) | (refine wpList_stB 26 _ _ (by with_reducible rfl) rfl (by rfl) _ (by rfl) (by assumption) (by rfl) (peer_size (by rfl)) (by rfl) ?_; intro wN BN hO))
    obtain ⟨r0, r1, r2, r3, r4, r5, r6, r7, r8, r9, r10⟩ := cells11 BN
    exact bodyPost_ret (v := .agg #[.int .i64 p.st, .int .i64 p.port, .int .i64 p.to, .int .u32 p.fi, .int .u32 p.un, .int .u32 p.ne, .int .u32 p.wa, .int .i64 p.wi, .int .i64 p.ot, .slice A2 p.d.n k2, .slice A3 p.g.n k3]) (by simp [results, Try.results21, go_sem, r0, r1, r2, r3, r4, r5, r6, r7, r8, r9, r10]) rfl ⟨hO.bel (by omega) hbG, A2, k2, A3, k3, rfl, own_weak (own_only o2 hO (by omega)) (by omega), own_weak (own_only o3 hO (by omega)) (by omega), fun g h2 h3 => by have q2 := (hown2.lt g h2).2; have q3 := (hown3.lt g h3).1; omega⟩
theorem pcopied_spec (p : Peer.P) (w : World) (hp : p.ok w) (hd : p.d.n ≤ 140737488355328) (hg : p.g.n ≤ 140737488355328) :
    Calls Try.prog 21 #[.agg #[.int .i64 p.st, .int .i64 p.port, .int .i64 p.to, .int .u32 p.fi, .int .u32 p.un, .int .u32 p.ne, .int .u32 p.wa, .int .i64 p.wi, .int .i64 p.ot, .slice p.d.A p.d.n p.d.c, .slice p.g.A p.g.n p.g.c]] w (CopR p w) :=
  (pcopied2_spec p w ⟨hp.d, hp.g⟩ hd hg).mono fun e w' ⟨hb, A, c, B, k, h1, h2, h3, _⟩ => ⟨hb, A, c, B, k, h1, h2, h3⟩
end Go.Proofs.Ytihhcalgjkkalaa
