/- The walk of what happens between two: a side says something. (Printed by tools/gen_pbdo.py.) -/
import Derived.Test.YtihhcalgjkkalaaPbMem
import Derived.Test.YtihhcalgjkkalaaOrders
namespace Go.Proofs.Ytihhcalgjkkalaa
open Go.RowKit
set_option linter.unusedVariables false
set_option linter.unusedSimpArgs false
set_option maxRecDepth 8000
set_option maxHeartbeats 8000000 in
theorem do_say0 (w0 w : World) (g : Nat) (z : Two) (h : TwoM w0 g z w) (kd at_ m : Int) (hk : 0 ≤ kd ∧ kd ≤ 255) (h5 : kd % 5 = 0) (hr : Pb.rightC z.P0.con = true) (hm : 1 ≤ m ∧ m ≤ 65536) (hn : z.n0 ≤ 100000) :
    Calls Try.prog 15 #[.pointer (some ⟨g, 0, none⟩), .agg #[.int .u8 kd, .bool false, .int .u8 at_], .int .i64 m] w fun e w' => e = .returned (.tuple #[]) ∧ ∃ z', TwoM w0 g z' w' ∧ z'.ct = Pb.sayK false m z.ct := by
  have HR := Lib.hid hr
  have HM := Lib.hid hm
  clear hr hm
  obtain ⟨W, hW⟩ : ∃ W, W = w.alloc (.cells #[.int .u8 kd, .bool false, .int .u8 at_] 51) := ⟨_, rfl⟩
  have hbW : Below w.heap.size w W := by rw [hW]; exact (Below.refl _ _).alloc (Nat.le_refl _) _
  have BD : BlkV W w.heap.size 51 [.int .u8 kd, .bool false, .int .u8 at_] := by rw [hW]; exact BlkV.new _ _ _
  have hWs : W.heap.size = w.heap.size + 1 := by rw [hW]; simp
  have HT := Lib.hid (h.below hbW)
  have HNE0 : Hid (∀ g, (Value.slice z.A0 z.n0 z.c0).ownBlock = some g → g < W.heap.size) := Lib.hid fun g hg => (HT.out.r0.lt g hg).2
  have HNE1 : Hid (∀ g, (Value.slice z.A1 z.n1 z.c1).ownBlock = some g → g < W.heap.size) := Lib.hid fun g hg => (HT.out.r1.lt g hg).2
  have d0 := cellF BD 0 rfl
  have d1 := cellF BD 1 rfl
  clear h
  go_enter Try.func15, Try.ntmps15
  go_upto_region 1 with (fail)
  rw [← hW]
  clear hW
  go_upto_region 6 with (fail)
  have HS := Lib.hid (pSayG_spec z.P0 m W w0.heap.size HT.out.o0 HR.out HM.out)
  go_wp2_with (refine wpList_ldM (pre := ([] : List Value)) (cs := [.int .i64 z.P0.st, .int .i64 z.P0.port, .int .i64 z.P0.to, .int .u32 z.P0.fi, .int .u32 z.P0.un, .int .u32 z.P0.ne, .int .u32 z.P0.wa, .int .i64 z.P0.wi, .int .i64 z.P0.ot, .slice z.P0.d.A z.P0.d.n z.P0.d.c, .slice z.P0.g.A z.P0.g.n z.P0.g.c]) (post := _) 26 _ _ (by with_reducible rfl) rfl (by rfl) (BlkV.fit HT.out.blk rfl) Try.underlying26 rfl (peer_size (by rfl)) ?_)
  refine HS.out.mono ?_
  rintro e w1 ⟨hb1, p, t, rfl, hp, ht, hpc, htc⟩
  have HP1 := Lib.hid hp
  have HT1 := Lib.hid ht
  have HPC := Lib.hid hpc
  have HTC := Lib.hid htc
  obtain ⟨ob, hob⟩ : ∃ b, b = (Pb.sayC z.P0.con m).2.isSome := ⟨_, rfl⟩
  have HOB := Lib.hid hob
  rw [← hob]
  clear hp ht hpc htc hob HS
  have hs1 := hb1.size
  have B7 : BlkV ((w1.alloc (.cells #[.int .i64 0, .int .i64 0, .int .i64 0, .int .u32 0, .int .u32 0, .int .u32 0, .int .u32 0, .int .i64 0, .int .i64 0, .slice none 0 0, .slice none 0 0] 26)).alloc (.cells #[.int .i64 0, .int .i64 0, .int .u32 0, .int .u32 0, .int .i64 0, .int .i64 0, .int .i64 0, .slice none 0 0, .slice none 0 0] 37)) w1.heap.size 26 [.int .i64 0, .int .i64 0, .int .i64 0, .int .u32 0, .int .u32 0, .int .u32 0, .int .u32 0, .int .i64 0, .int .i64 0, .slice none 0 0, .slice none 0 0] := (BlkV.new w1 _ _).alloc _
  have B8 : BlkV ((w1.alloc (.cells #[.int .i64 0, .int .i64 0, .int .i64 0, .int .u32 0, .int .u32 0, .int .u32 0, .int .u32 0, .int .i64 0, .int .i64 0, .slice none 0 0, .slice none 0 0] 26)).alloc (.cells #[.int .i64 0, .int .i64 0, .int .u32 0, .int .u32 0, .int .i64 0, .int .i64 0, .int .i64 0, .slice none 0 0, .slice none 0 0] 37)) (w1.heap.size + 1) 37 [.int .i64 0, .int .i64 0, .int .u32 0, .int .u32 0, .int .i64 0, .int .i64 0, .int .i64 0, .slice none 0 0, .slice none 0 0] := BlkV.new_at (w1.alloc (.cells #[.int .i64 0, .int .i64 0, .int .i64 0, .int .u32 0, .int .u32 0, .int .u32 0, .int .u32 0, .int .i64 0, .int .i64 0, .slice none 0 0, .slice none 0 0] 26)) _ _ (by simp)
  have hb2 := bel_a (bel_a hb1 (.cells #[.int .i64 0, .int .i64 0, .int .i64 0, .int .u32 0, .int .u32 0, .int .u32 0, .int .u32 0, .int .i64 0, .int .i64 0, .slice none 0 0, .slice none 0 0] 26)) (.cells #[.int .i64 0, .int .i64 0, .int .u32 0, .int .u32 0, .int .i64 0, .int .i64 0, .int .i64 0, .slice none 0 0, .slice none 0 0] 37)
  have hs2 : ((w1.alloc (.cells #[.int .i64 0, .int .i64 0, .int .i64 0, .int .u32 0, .int .u32 0, .int .u32 0, .int .u32 0, .int .i64 0, .int .i64 0, .slice none 0 0, .slice none 0 0] 26)).alloc (.cells #[.int .i64 0, .int .i64 0, .int .u32 0, .int .u32 0, .int .i64 0, .int .i64 0, .int .i64 0, .slice none 0 0, .slice none 0 0] 37)).heap.size = w1.heap.size + 2 := by simp
  have hbw1 : Below w1.heap.size w1 ((w1.alloc (.cells #[.int .i64 0, .int .i64 0, .int .i64 0, .int .u32 0, .int .u32 0, .int .u32 0, .int .u32 0, .int .i64 0, .int .i64 0, .slice none 0 0, .slice none 0 0] 26)).alloc (.cells #[.int .i64 0, .int .i64 0, .int .u32 0, .int .u32 0, .int .i64 0, .int .i64 0, .int .i64 0, .slice none 0 0, .slice none 0 0] 37)) := bel_a (bel_a (Below.refl _ _) _) _
  go_upto_region 7 with (first | (refine wpList_stB 26 _ _ (by with_reducible rfl) rfl (by rfl) _ (by rfl) B7 (by rfl) (peer_size (by rfl)) (by rfl) ?_; intro wN BN hN) | (refine wpList_stB 37 _ _ (by with_reducible rfl) rfl (by rfl) _ (by rfl) (B8.only hN (by omega)) (by rfl) (tcp_size (by rfl)) (by rfl) ?_; intro wM BM hM))
  have C7 := BN.only hM (by omega)
  have hbM := hM.bel (by omega) (hN.bel (by omega) hb2)
  have hbw := hM.bel (by omega) (hN.bel (by omega) hbw1)
  have hsM : wM.heap.size = w1.heap.size + 2 := by rw [hM.size, hN.size]; exact hs2
  have HTM := Lib.hid (HT.out.below hbM)
  have HPM := Lib.hid ((HP1.out.below hbw).weak HT.out.bel.size)
  have HOTM := Lib.hid (OwnS.weak (OwnS.below HT1.out hbw) HT.out.bel.size)
  have HGL := Lib.hid HT.out.blk.lt
  clear B7 B8 hb2 hs2 hbw1 BN hN hM hbM hbw hb1 HP1 HT1
  have KP : Hid (∀ w' : World, BlkV w' w1.heap.size 26 [.int .i64 p.st, .int .i64 p.port, .int .i64 p.to, .int .u32 p.fi, .int .u32 p.un, .int .u32 p.ne, .int .u32 p.wa, .int .i64 p.wi, .int .i64 p.ot, .slice p.d.A p.d.n p.d.c, .slice p.g.A p.g.n p.g.c] → (w'.cell? ⟨w1.heap.size, 0, none⟩ = some (.int .i64 p.st) ∧ w'.cell? ⟨w1.heap.size, 1, none⟩ = some (.int .i64 p.port) ∧ w'.cell? ⟨w1.heap.size, 2, none⟩ = some (.int .i64 p.to) ∧ w'.cell? ⟨w1.heap.size, 3, none⟩ = some (.int .u32 p.fi) ∧ w'.cell? ⟨w1.heap.size, 4, none⟩ = some (.int .u32 p.un) ∧ w'.cell? ⟨w1.heap.size, 5, none⟩ = some (.int .u32 p.ne) ∧ w'.cell? ⟨w1.heap.size, 6, none⟩ = some (.int .u32 p.wa) ∧ w'.cell? ⟨w1.heap.size, 7, none⟩ = some (.int .i64 p.wi) ∧ w'.cell? ⟨w1.heap.size, 8, none⟩ = some (.int .i64 p.ot) ∧ w'.cell? ⟨w1.heap.size, 9, none⟩ = some (.slice p.d.A p.d.n p.d.c) ∧ w'.cell? ⟨w1.heap.size, 10, none⟩ = some (.slice p.g.A p.g.n p.g.c))) := Lib.hid fun w' h => cells11 h
  refine wp_region_held_drew (S := fun w' => (w'.cell? ⟨w1.heap.size, 0, none⟩ = some (.int .i64 p.st) ∧ w'.cell? ⟨w1.heap.size, 1, none⟩ = some (.int .i64 p.port) ∧ w'.cell? ⟨w1.heap.size, 2, none⟩ = some (.int .i64 p.to) ∧ w'.cell? ⟨w1.heap.size, 3, none⟩ = some (.int .u32 p.fi) ∧ w'.cell? ⟨w1.heap.size, 4, none⟩ = some (.int .u32 p.un) ∧ w'.cell? ⟨w1.heap.size, 5, none⟩ = some (.int .u32 p.ne) ∧ w'.cell? ⟨w1.heap.size, 6, none⟩ = some (.int .u32 p.wa) ∧ w'.cell? ⟨w1.heap.size, 7, none⟩ = some (.int .i64 p.wi) ∧ w'.cell? ⟨w1.heap.size, 8, none⟩ = some (.int .i64 p.ot) ∧ w'.cell? ⟨w1.heap.size, 9, none⟩ = some (.slice p.d.A p.d.n p.d.c) ∧ w'.cell? ⟨w1.heap.size, 10, none⟩ = some (.slice p.g.A p.g.n p.g.c))) (by kernel_rfl) (KP.out _ C7) (fun hHeld => ?_)
  refine wpAnyH_takeD (i := 0) (some 34) (v := ?_) rfl rfl (by kernel_rfl) (by kernel_rfl) (by kernel_rfl) (fun _ _ _ h => h) (Or.inl ⟨by rfl, ?_⟩) (by assumption) ?_
  rotate_left
  · (intro w hSw; (try dsimp only at hSw); go_simp; try with_reducible rfl)
  try simp only [Act.put, List.setIfInBounds_toArray, List.set_cons_zero, List.set_cons_succ]
  refine wpAnyH_takeD (i := 1) (some 35) (v := ?_) rfl rfl (by kernel_rfl) (by kernel_rfl) (by kernel_rfl) (fun _ _ _ h => h) (Or.inl ⟨by rfl, ?_⟩) (by assumption) ?_
  rotate_left
  · (intro w hSw; (try dsimp only at hSw); go_simp; try with_reducible rfl)
  try simp only [Act.put, List.setIfInBounds_toArray, List.set_cons_zero, List.set_cons_succ]
  refine wpAnyH_takeD (i := 2) (some 36) (v := ?_) rfl rfl (by kernel_rfl) (by kernel_rfl) (by kernel_rfl) (fun _ _ _ h => h) (Or.inl ⟨by rfl, ?_⟩) (by assumption) ?_
  rotate_left
  · (intro w hSw; (try dsimp only at hSw); go_simp; try with_reducible rfl)
  try simp only [Act.put, List.setIfInBounds_toArray, List.set_cons_zero, List.set_cons_succ]
  refine wpAnyH_takeD (i := 3) (some 37) (v := ?_) rfl rfl (by kernel_rfl) (by kernel_rfl) (by kernel_rfl) (fun _ _ _ h => h) (Or.inl ⟨by rfl, ?_⟩) (by assumption) ?_
  rotate_left
  · (intro w hSw; (try dsimp only at hSw); go_simp; try with_reducible rfl)
  try simp only [Act.put, List.setIfInBounds_toArray, List.set_cons_zero, List.set_cons_succ]
  refine wpAnyH_takeD (i := 4) (some 38) (v := ?_) rfl rfl (by kernel_rfl) (by kernel_rfl) (by kernel_rfl) (fun _ _ _ h => h) (Or.inl ⟨by rfl, ?_⟩) (by assumption) ?_
  rotate_left
  · (intro w hSw; (try dsimp only at hSw); go_simp; try with_reducible rfl)
  try simp only [Act.put, List.setIfInBounds_toArray, List.set_cons_zero, List.set_cons_succ]
  refine wpAnyH_takeD (i := 5) (some 39) (v := ?_) rfl rfl (by kernel_rfl) (by kernel_rfl) (by kernel_rfl) (fun _ _ _ h => h) (Or.inl ⟨by rfl, ?_⟩) (by assumption) ?_
  rotate_left
  · (intro w hSw; (try dsimp only at hSw); go_simp; try with_reducible rfl)
  try simp only [Act.put, List.setIfInBounds_toArray, List.set_cons_zero, List.set_cons_succ]
  refine wpAnyH_ready (rs := [6]) (by kernel_rfl) (by simp) ?_
  refine AllReadyH.cons (o := _) rfl (fun K hK => ?_) AllReadyH.nil
  rw [if_pos (by rfl)]
  refine wp_stM (pre := ([] : List Value)) (cs := [.int .i64 z.P0.st, .int .i64 z.P0.port, .int .i64 z.P0.to, .int .u32 z.P0.fi, .int .u32 z.P0.un, .int .u32 z.P0.ne, .int .u32 z.P0.wa, .int .i64 z.P0.wi, .int .i64 z.P0.ot, .slice z.P0.d.A z.P0.d.n z.P0.d.c, .slice z.P0.g.A z.P0.g.n z.P0.g.c]) (ds := [.int .i64 p.st, .int .i64 p.port, .int .i64 p.to, .int .u32 p.fi, .int .u32 p.un, .int .u32 p.ne, .int .u32 p.wa, .int .i64 p.wi, .int .i64 p.ot, .slice p.d.A p.d.n p.d.c, .slice p.g.A p.g.n p.g.c]) (post := _) 26 _ _ rfl rfl (by rfl) (by rfl) (BlkV.fit HTM.out.drew.blk rfl) (by rfl) (peer_size (by rfl)) (by rfl) ?_
  intro w3 B3 h3
  have HTz := Lib.hid (HTM.out.drew.peer0 HPM.out.drew h3 (BlkV.fit B3 rfl))
  have C8 := (show BlkV wM.drew _ _ _ from BM).only h3 (by have := HGL.out; omega)
  have HOT := Lib.hid (OwnS.st (OwnS.drew HOTM.out) HTM.out.drew.blk h3 (by decide))
  refine hK.out _ _ (KP.out _ ((show BlkV wM.drew _ _ _ from C7).only h3 (by have := HGL.out; omega))) (fun hHeld => ?_)
  clear hK K
  try simp only [Act.put, List.setIfInBounds_toArray, List.set_cons_zero, List.set_cons_succ]
  refine wpAnyH_done (by kernel_rfl) ?_ _
  clear HTM HPM HOTM KP B3 h3 C7 BM hHeld
  have HTG := Lib.hid (show g < W.heap.size from HGL.out)
  cases ob
  · go_wp2_with fail
    have e0 : (Pb.sayC z.P0.con m).2 = none := by
      cases he : (Pb.sayC z.P0.con m).2 with
      | none => rfl
      | some x => have := HOB.out; rw [he] at this; cases this
    exact bodyPost_ret (v := .tuple #[]) (by simp [results, Try.results15, go_sem]) rfl ⟨rfl, _, HTz.out, by unfold Two.ct Pb.sayK; simp [HPC.out, e0]⟩
  · go_upto_region 9 with (fail)
    have KS : Hid (∀ w' : World, BlkV w' (w1.heap.size + 1) 37 [.int .i64 t.sp, .int .i64 t.dp, .int .u32 t.sq, .int .u32 t.ak, .int .i64 t.fl, .int .i64 t.wi, .int .i64 t.ur, .slice t.Ao t.no t.co, .slice t.Ab t.nb t.cb] → BlkV w' g 48 [.int .i64 p.st, .int .i64 p.port, .int .i64 p.to, .int .u32 p.fi, .int .u32 p.un, .int .u32 p.ne, .int .u32 p.wa, .int .i64 p.wi, .int .i64 p.ot, .slice p.d.A p.d.n p.d.c, .slice p.g.A p.g.n p.g.c, .int .i64 z.P1.st, .int .i64 z.P1.port, .int .i64 z.P1.to, .int .u32 z.P1.fi, .int .u32 z.P1.un, .int .u32 z.P1.ne, .int .u32 z.P1.wa, .int .i64 z.P1.wi, .int .i64 z.P1.ot, .slice z.P1.d.A z.P1.d.n z.P1.d.c, .slice z.P1.g.A z.P1.g.n z.P1.g.c, .slice z.A0 z.n0 z.c0, .slice z.A1 z.n1 z.c1] → (w'.cell? ⟨w1.heap.size + 1, 0, none⟩ = some (.int .i64 t.sp) ∧ w'.cell? ⟨w1.heap.size + 1, 1, none⟩ = some (.int .i64 t.dp) ∧ w'.cell? ⟨w1.heap.size + 1, 2, none⟩ = some (.int .u32 t.sq) ∧ w'.cell? ⟨w1.heap.size + 1, 3, none⟩ = some (.int .u32 t.ak) ∧ w'.cell? ⟨w1.heap.size + 1, 4, none⟩ = some (.int .i64 t.fl) ∧ w'.cell? ⟨w1.heap.size + 1, 5, none⟩ = some (.int .i64 t.wi) ∧ w'.cell? ⟨w1.heap.size + 1, 6, none⟩ = some (.int .i64 t.ur) ∧ w'.cell? ⟨w1.heap.size + 1, 7, none⟩ = some (.slice t.Ao t.no t.co) ∧ w'.cell? ⟨w1.heap.size + 1, 8, none⟩ = some (.slice t.Ab t.nb t.cb) ∧ w'.cell? ⟨g, 22, none⟩ = some (.slice z.A0 z.n0 z.c0))) := Lib.hid fun w' h k => by
      obtain ⟨h0, h1, h2, h3, h4, h5, h6, h7, h8⟩ := cells9 h
      exact ⟨h0, h1, h2, h3, h4, h5, h6, h7, h8, k.cell rfl⟩
    have NE8 : Hid ((Value.slice z.A0 z.n0 z.c0).ownBlock ≠ some (w1.heap.size + 1)) := Lib.hid fun e => by have h1 := HNE0.out _ e; have h2 := hs1; omega
    refine wp_region_X (S := fun w' => (w'.cell? ⟨w1.heap.size + 1, 0, none⟩ = some (.int .i64 t.sp) ∧ w'.cell? ⟨w1.heap.size + 1, 1, none⟩ = some (.int .i64 t.dp) ∧ w'.cell? ⟨w1.heap.size + 1, 2, none⟩ = some (.int .u32 t.sq) ∧ w'.cell? ⟨w1.heap.size + 1, 3, none⟩ = some (.int .u32 t.ak) ∧ w'.cell? ⟨w1.heap.size + 1, 4, none⟩ = some (.int .i64 t.fl) ∧ w'.cell? ⟨w1.heap.size + 1, 5, none⟩ = some (.int .i64 t.wi) ∧ w'.cell? ⟨w1.heap.size + 1, 6, none⟩ = some (.int .i64 t.ur) ∧ w'.cell? ⟨w1.heap.size + 1, 7, none⟩ = some (.slice t.Ao t.no t.co) ∧ w'.cell? ⟨w1.heap.size + 1, 8, none⟩ = some (.slice t.Ab t.nb t.cb) ∧ w'.cell? ⟨g, 22, none⟩ = some (.slice z.A0 z.n0 z.c0))) 14 (by kernel_rfl) (KS.out _ (show BlkV w3.drew _ _ _ from C8) (show BlkV w3.drew g 48 _ from BlkV.fit HTz.out.blk rfl)) (fun hHeld => ?_)
    refine wpAnyX_takeD (i := 0) (some 41) (v := ?_) rfl rfl (by kernel_rfl) (by kernel_rfl) (by kernel_rfl) (by kernel_rfl) (fun _ _ _ h => h) (Or.inl ⟨by rfl, ?_⟩) (by assumption) ?_
    rotate_left
    · (intro w hSw; (try dsimp only at hSw); go_simp; try with_reducible rfl)
    try simp only [Act.put, List.setIfInBounds_toArray, List.set_cons_zero, List.set_cons_succ]
    refine wpAnyX_takeD (i := 1) (some 42) (v := ?_) rfl rfl (by kernel_rfl) (by kernel_rfl) (by kernel_rfl) (by kernel_rfl) (fun _ _ _ h => h) (Or.inl ⟨by rfl, ?_⟩) (by assumption) ?_
    rotate_left
    · (intro w hSw; (try dsimp only at hSw); go_simp; try with_reducible rfl)
    try simp only [Act.put, List.setIfInBounds_toArray, List.set_cons_zero, List.set_cons_succ]
    refine wpAnyX_takeD (i := 2) (some 43) (v := ?_) rfl rfl (by kernel_rfl) (by kernel_rfl) (by kernel_rfl) (by kernel_rfl) (fun _ _ _ h => h) (Or.inl ⟨by rfl, ?_⟩) (by assumption) ?_
    rotate_left
    · (intro w hSw; (try dsimp only at hSw); go_simp; try with_reducible rfl)
    try simp only [Act.put, List.setIfInBounds_toArray, List.set_cons_zero, List.set_cons_succ]
    refine wpAnyX_takeD (i := 3) (some 44) (v := ?_) rfl rfl (by kernel_rfl) (by kernel_rfl) (by kernel_rfl) (by kernel_rfl) (fun _ _ _ h => h) (Or.inl ⟨by rfl, ?_⟩) (by assumption) ?_
    rotate_left
    · (intro w hSw; (try dsimp only at hSw); go_simp; try with_reducible rfl)
    try simp only [Act.put, List.setIfInBounds_toArray, List.set_cons_zero, List.set_cons_succ]
    refine wpAnyX_takeD (i := 4) (some 45) (v := ?_) rfl rfl (by kernel_rfl) (by kernel_rfl) (by kernel_rfl) (by kernel_rfl) (fun _ _ _ h => h) (Or.inl ⟨by rfl, ?_⟩) (by assumption) ?_
    rotate_left
    · (intro w hSw; (try dsimp only at hSw); go_simp; try with_reducible rfl)
    try simp only [Act.put, List.setIfInBounds_toArray, List.set_cons_zero, List.set_cons_succ]
    refine wpAnyX_takeD (i := 5) (some 46) (v := ?_) rfl rfl (by kernel_rfl) (by kernel_rfl) (by kernel_rfl) (by kernel_rfl) (fun _ _ _ h => h) (Or.inl ⟨by rfl, ?_⟩) (by assumption) ?_
    rotate_left
    · (intro w hSw; (try dsimp only at hSw); go_simp; try with_reducible rfl)
    try simp only [Act.put, List.setIfInBounds_toArray, List.set_cons_zero, List.set_cons_succ]
    refine wpAnyX_takeD (i := 6) (some 47) (v := ?_) rfl rfl (by kernel_rfl) (by kernel_rfl) (by kernel_rfl) (by kernel_rfl) (fun _ _ _ h => h) (Or.inl ⟨by rfl, ?_⟩) (by assumption) ?_
    rotate_left
    · (intro w hSw; (try dsimp only at hSw); go_simp; try with_reducible rfl)
    try simp only [Act.put, List.setIfInBounds_toArray, List.set_cons_zero, List.set_cons_succ]
    refine wpAnyX_takeD (i := 7) (some 48) (v := ?_) rfl rfl (by kernel_rfl) (by kernel_rfl) (by kernel_rfl) (by kernel_rfl) (fun _ _ _ h => h) (Or.inl ⟨by rfl, ?_⟩) (by assumption) ?_
    rotate_left
    · (intro w hSw; (try dsimp only at hSw); go_simp; try with_reducible rfl)
    try simp only [Act.put, List.setIfInBounds_toArray, List.set_cons_zero, List.set_cons_succ]
    refine wpAnyX_takeD (i := 8) (some 49) (v := ?_) rfl rfl (by kernel_rfl) (by kernel_rfl) (by kernel_rfl) (by kernel_rfl) (fun _ _ _ h => h) (Or.inl ⟨by rfl, ?_⟩) (by assumption) ?_
    rotate_left
    · (intro w hSw; (try dsimp only at hSw); go_simp; try with_reducible rfl)
    try simp only [Act.put, List.setIfInBounds_toArray, List.set_cons_zero, List.set_cons_succ]
    refine wpAnyX_takeD (i := 11) (some 52) (v := ?_) rfl rfl (by kernel_rfl) (by kernel_rfl) (by kernel_rfl) (by kernel_rfl) (fun _ _ _ h => h) (Or.inl ⟨by rfl, ?_⟩) (by assumption) ?_
    rotate_left
    · (intro w hSw; (try dsimp only at hSw); go_simp; try with_reducible rfl)
    try simp only [Act.put, List.setIfInBounds_toArray, List.set_cons_zero, List.set_cons_succ]
    refine wpAnyX_takeD (i := 12) (some 53) (v := ?_) rfl rfl (by kernel_rfl) (by kernel_rfl) (by kernel_rfl) (by kernel_rfl) (fun _ _ _ h => h) (Or.inl ⟨by rfl, ?_⟩) (by assumption) ?_
    rotate_left
    · (intro w hSw; (try dsimp only at hSw); go_simp; try with_reducible rfl)
    try simp only [Act.put, List.setIfInBounds_toArray, List.set_cons_zero, List.set_cons_succ]
    refine wpAnyX_ready (rs := [9]) (by kernel_rfl) (by simp) ?_
    refine AllReadyX.cons (o := _) rfl (fun K hK => ?_) AllReadyX.nil
    go_simp
    first | refine ct_gen (fun y1 hy1 => ?_) | refine ct_gend (fun y1 hy1 => ?_)
    have hby : Below w3.heap.size w3 y1 := by rw [hy1]; first | exact bel_a (bel_d (Below.refl _ _)) _ | exact bel_d (bel_a (Below.refl _ _) _)
    have HRD : Hid (Rd y1 9 (some ⟨w3.heap.size, 0, none⟩) 1 t.cells) := Lib.hid (by rw [hy1]; first | exact rd_seg w3.drew t | exact (rd_seg w3 t).drew)
    have HTy := Lib.hid (HTz.out.below hby)
    have SBy := BlkV.below C8 hby
    have hsy := hby.size
    clear hy1
    refine hK.out _ _ (KS.out _ SBy (BlkV.fit HTy.out.blk rfl)) (fun hHeld => ?_)
    clear hK K
    try simp only [Act.put, List.setIfInBounds_toArray, List.set_cons_zero, List.set_cons_succ]
    refine wpAnyX_ready (rs := [10]) (by kernel_rfl) (by simp) ?_
    refine AllReadyX.cons (o := _) rfl (fun K hK => ?_) AllReadyX.nil
    refine step_app9 (by rfl) (.tmp 48) (.tmp 50) 45 (by rfl) w0 HTy.out.bel 37 _ 9 96 Try.underlying45 info_tcp rfl (by decide) (.slice z.A0 z.n0 z.c0) z.n0 (segCells z.l0) (by rfl) HTy.out.r0 (some ⟨w3.heap.size, 0, none⟩) 1 1 t.cells (by rfl) HRD.out (by rw [← segCells_one]; exact one_segs _) (by unfold maxLen; omega) (by omega) ?_
    intro A6 k6 y2 hown hby2 hgr hat
    have SB2 := SBy.grown hgr NE8.out
    have BG2 := HTy.out.blk.grown hgr (own_ne (m := 0) HTy.out.r0 HTy.out.blk (by decide))
    have HOWN := Lib.hid hown
    have HGR := Lib.hid hgr
    have HBY2 := Lib.hid hby2
    have HAT := Lib.hid hat
    clear hown hgr hby2 hat
    refine hK.out _ _ (KS.out _ SB2 (BlkV.fit BG2 rfl)) (fun hHeld => ?_)
    clear hK K
    try simp only [Act.put, List.setIfInBounds_toArray, List.set_cons_zero, List.set_cons_succ]
    refine wpAnyX_takeD (i := 13) (some 54) (v := ?_) rfl rfl (by kernel_rfl) (by kernel_rfl) (by kernel_rfl) (by kernel_rfl) (fun _ _ _ h => h) (Or.inl ⟨by rfl, ?_⟩) (by assumption) ?_
    rotate_left
    · (intro w hSw; (try dsimp only at hSw); go_simp; try with_reducible rfl)
    try simp only [Act.put, List.setIfInBounds_toArray, List.set_cons_zero, List.set_cons_succ]
    refine wpAnyX_ready (rs := [14]) (by kernel_rfl) (by simp) ?_
    refine AllReadyX.last (o := _) rfl (by kernel_rfl) (fun K hK => ?_)
    rw [if_pos (by rfl)]
    refine wp_stF 45 _ _ 22 (.slice A6 (z.n0 + 1) k6) rfl (by rfl) (by rfl) (by rfl) BG2 (by simp) (by kernel_rfl) rfl ?_
    intro w6 B6 h6
    refine hK.out _ _ ?_
    clear hK K
    try simp only [Act.put, List.setIfInBounds_toArray, List.set_cons_zero, List.set_cons_succ]
    refine wpAnyX_done (by kernel_rfl) ?_ _
    have HT6 := Lib.hid (HTy.out.way0 HGR.out HBY2.out (l := z.l0 ++ [t]) (by rw [segCells_app, segCells_one]; exact HOWN.out) (fun x hx => by rcases List.mem_append.1 hx with hx | hx; exact HTy.out.t0 x hx; rw [List.mem_singleton.1 hx]; exact HOT.out.below hby) (HAT.out.imp id (fun e k h => by rw [e] at h; injection h with h; omega)) h6 (BlkV.fit B6 rfl))
    clear HTy HTz SBy SB2 BG2 HOWN HGR HBY2 HAT KS NE8 HRD B6 h6 hby hHeld
    go_wp2_with fail
    have e0 : (Pb.sayC z.P0.con m).2 = some t.con := by
      cases he : (Pb.sayC z.P0.con m).2 with
      | none => have := HOB.out; rw [he] at this; cases this
      | some x => have := HTC.out; rw [he] at this; rw [this]; rfl
    exact bodyPost_ret (v := .tuple #[]) (by simp [results, Try.results15, go_sem]) rfl ⟨rfl, _, HT6.out, by unfold Two.ct Pb.sayK; simp [HPC.out, e0]⟩
set_option maxHeartbeats 8000000 in
theorem do_say1 (w0 w : World) (g : Nat) (z : Two) (h : TwoM w0 g z w) (kd at_ m : Int) (hk : 0 ≤ kd ∧ kd ≤ 255) (h5 : kd % 5 = 0) (hr : Pb.rightC z.P1.con = true) (hm : 1 ≤ m ∧ m ≤ 65536) (hn : z.n1 ≤ 100000) :
    Calls Try.prog 15 #[.pointer (some ⟨g, 0, none⟩), .agg #[.int .u8 kd, .bool true, .int .u8 at_], .int .i64 m] w fun e w' => e = .returned (.tuple #[]) ∧ ∃ z', TwoM w0 g z' w' ∧ z'.ct = Pb.sayK true m z.ct := by
  have HR := Lib.hid hr
  have HM := Lib.hid hm
  clear hr hm
  obtain ⟨W, hW⟩ : ∃ W, W = w.alloc (.cells #[.int .u8 kd, .bool true, .int .u8 at_] 51) := ⟨_, rfl⟩
  have hbW : Below w.heap.size w W := by rw [hW]; exact (Below.refl _ _).alloc (Nat.le_refl _) _
  have BD : BlkV W w.heap.size 51 [.int .u8 kd, .bool true, .int .u8 at_] := by rw [hW]; exact BlkV.new _ _ _
  have hWs : W.heap.size = w.heap.size + 1 := by rw [hW]; simp
  have HT := Lib.hid (h.below hbW)
  have HNE0 : Hid (∀ g, (Value.slice z.A0 z.n0 z.c0).ownBlock = some g → g < W.heap.size) := Lib.hid fun g hg => (HT.out.r0.lt g hg).2
  have HNE1 : Hid (∀ g, (Value.slice z.A1 z.n1 z.c1).ownBlock = some g → g < W.heap.size) := Lib.hid fun g hg => (HT.out.r1.lt g hg).2
  have d0 := cellF BD 0 rfl
  have d1 := cellF BD 1 rfl
  clear h
  go_enter Try.func15, Try.ntmps15
  go_upto_region 1 with (fail)
  rw [← hW]
  clear hW
  go_upto_region 6 with (fail)
  have HS := Lib.hid (pSayG_spec z.P1 m W w0.heap.size HT.out.o1 HR.out HM.out)
  go_wp2_with (refine wpList_ldM (pre := [.int .i64 z.P0.st, .int .i64 z.P0.port, .int .i64 z.P0.to, .int .u32 z.P0.fi, .int .u32 z.P0.un, .int .u32 z.P0.ne, .int .u32 z.P0.wa, .int .i64 z.P0.wi, .int .i64 z.P0.ot, .slice z.P0.d.A z.P0.d.n z.P0.d.c, .slice z.P0.g.A z.P0.g.n z.P0.g.c]) (cs := [.int .i64 z.P1.st, .int .i64 z.P1.port, .int .i64 z.P1.to, .int .u32 z.P1.fi, .int .u32 z.P1.un, .int .u32 z.P1.ne, .int .u32 z.P1.wa, .int .i64 z.P1.wi, .int .i64 z.P1.ot, .slice z.P1.d.A z.P1.d.n z.P1.d.c, .slice z.P1.g.A z.P1.g.n z.P1.g.c]) (post := _) 26 _ _ (by with_reducible rfl) rfl (by rfl) (BlkV.fit HT.out.blk rfl) Try.underlying26 rfl (peer_size (by rfl)) ?_)
  refine HS.out.mono ?_
  rintro e w1 ⟨hb1, p, t, rfl, hp, ht, hpc, htc⟩
  have HP1 := Lib.hid hp
  have HT1 := Lib.hid ht
  have HPC := Lib.hid hpc
  have HTC := Lib.hid htc
  obtain ⟨ob, hob⟩ : ∃ b, b = (Pb.sayC z.P1.con m).2.isSome := ⟨_, rfl⟩
  have HOB := Lib.hid hob
  rw [← hob]
  clear hp ht hpc htc hob HS
  have hs1 := hb1.size
  have B7 : BlkV ((w1.alloc (.cells #[.int .i64 0, .int .i64 0, .int .i64 0, .int .u32 0, .int .u32 0, .int .u32 0, .int .u32 0, .int .i64 0, .int .i64 0, .slice none 0 0, .slice none 0 0] 26)).alloc (.cells #[.int .i64 0, .int .i64 0, .int .u32 0, .int .u32 0, .int .i64 0, .int .i64 0, .int .i64 0, .slice none 0 0, .slice none 0 0] 37)) w1.heap.size 26 [.int .i64 0, .int .i64 0, .int .i64 0, .int .u32 0, .int .u32 0, .int .u32 0, .int .u32 0, .int .i64 0, .int .i64 0, .slice none 0 0, .slice none 0 0] := (BlkV.new w1 _ _).alloc _
  have B8 : BlkV ((w1.alloc (.cells #[.int .i64 0, .int .i64 0, .int .i64 0, .int .u32 0, .int .u32 0, .int .u32 0, .int .u32 0, .int .i64 0, .int .i64 0, .slice none 0 0, .slice none 0 0] 26)).alloc (.cells #[.int .i64 0, .int .i64 0, .int .u32 0, .int .u32 0, .int .i64 0, .int .i64 0, .int .i64 0, .slice none 0 0, .slice none 0 0] 37)) (w1.heap.size + 1) 37 [.int .i64 0, .int .i64 0, .int .u32 0, .int .u32 0, .int .i64 0, .int .i64 0, .int .i64 0, .slice none 0 0, .slice none 0 0] := BlkV.new_at (w1.alloc (.cells #[.int .i64 0, .int .i64 0, .int .i64 0, .int .u32 0, .int .u32 0, .int .u32 0, .int .u32 0, .int .i64 0, .int .i64 0, .slice none 0 0, .slice none 0 0] 26)) _ _ (by simp)
  have hb2 := bel_a (bel_a hb1 (.cells #[.int .i64 0, .int .i64 0, .int .i64 0, .int .u32 0, .int .u32 0, .int .u32 0, .int .u32 0, .int .i64 0, .int .i64 0, .slice none 0 0, .slice none 0 0] 26)) (.cells #[.int .i64 0, .int .i64 0, .int .u32 0, .int .u32 0, .int .i64 0, .int .i64 0, .int .i64 0, .slice none 0 0, .slice none 0 0] 37)
  have hs2 : ((w1.alloc (.cells #[.int .i64 0, .int .i64 0, .int .i64 0, .int .u32 0, .int .u32 0, .int .u32 0, .int .u32 0, .int .i64 0, .int .i64 0, .slice none 0 0, .slice none 0 0] 26)).alloc (.cells #[.int .i64 0, .int .i64 0, .int .u32 0, .int .u32 0, .int .i64 0, .int .i64 0, .int .i64 0, .slice none 0 0, .slice none 0 0] 37)).heap.size = w1.heap.size + 2 := by simp
  have hbw1 : Below w1.heap.size w1 ((w1.alloc (.cells #[.int .i64 0, .int .i64 0, .int .i64 0, .int .u32 0, .int .u32 0, .int .u32 0, .int .u32 0, .int .i64 0, .int .i64 0, .slice none 0 0, .slice none 0 0] 26)).alloc (.cells #[.int .i64 0, .int .i64 0, .int .u32 0, .int .u32 0, .int .i64 0, .int .i64 0, .int .i64 0, .slice none 0 0, .slice none 0 0] 37)) := bel_a (bel_a (Below.refl _ _) _) _
  go_upto_region 7 with (first | (refine wpList_stB 26 _ _ (by with_reducible rfl) rfl (by rfl) _ (by rfl) B7 (by rfl) (peer_size (by rfl)) (by rfl) ?_; intro wN BN hN) | (refine wpList_stB 37 _ _ (by with_reducible rfl) rfl (by rfl) _ (by rfl) (B8.only hN (by omega)) (by rfl) (tcp_size (by rfl)) (by rfl) ?_; intro wM BM hM))
  have C7 := BN.only hM (by omega)
  have hbM := hM.bel (by omega) (hN.bel (by omega) hb2)
  have hbw := hM.bel (by omega) (hN.bel (by omega) hbw1)
  have hsM : wM.heap.size = w1.heap.size + 2 := by rw [hM.size, hN.size]; exact hs2
  have HTM := Lib.hid (HT.out.below hbM)
  have HPM := Lib.hid ((HP1.out.below hbw).weak HT.out.bel.size)
  have HOTM := Lib.hid (OwnS.weak (OwnS.below HT1.out hbw) HT.out.bel.size)
  have HGL := Lib.hid HT.out.blk.lt
  clear B7 B8 hb2 hs2 hbw1 BN hN hM hbM hbw hb1 HP1 HT1
  have KP : Hid (∀ w' : World, BlkV w' w1.heap.size 26 [.int .i64 p.st, .int .i64 p.port, .int .i64 p.to, .int .u32 p.fi, .int .u32 p.un, .int .u32 p.ne, .int .u32 p.wa, .int .i64 p.wi, .int .i64 p.ot, .slice p.d.A p.d.n p.d.c, .slice p.g.A p.g.n p.g.c] → (w'.cell? ⟨w1.heap.size, 0, none⟩ = some (.int .i64 p.st) ∧ w'.cell? ⟨w1.heap.size, 1, none⟩ = some (.int .i64 p.port) ∧ w'.cell? ⟨w1.heap.size, 2, none⟩ = some (.int .i64 p.to) ∧ w'.cell? ⟨w1.heap.size, 3, none⟩ = some (.int .u32 p.fi) ∧ w'.cell? ⟨w1.heap.size, 4, none⟩ = some (.int .u32 p.un) ∧ w'.cell? ⟨w1.heap.size, 5, none⟩ = some (.int .u32 p.ne) ∧ w'.cell? ⟨w1.heap.size, 6, none⟩ = some (.int .u32 p.wa) ∧ w'.cell? ⟨w1.heap.size, 7, none⟩ = some (.int .i64 p.wi) ∧ w'.cell? ⟨w1.heap.size, 8, none⟩ = some (.int .i64 p.ot) ∧ w'.cell? ⟨w1.heap.size, 9, none⟩ = some (.slice p.d.A p.d.n p.d.c) ∧ w'.cell? ⟨w1.heap.size, 10, none⟩ = some (.slice p.g.A p.g.n p.g.c))) := Lib.hid fun w' h => cells11 h
  refine wp_region_held_drew (S := fun w' => (w'.cell? ⟨w1.heap.size, 0, none⟩ = some (.int .i64 p.st) ∧ w'.cell? ⟨w1.heap.size, 1, none⟩ = some (.int .i64 p.port) ∧ w'.cell? ⟨w1.heap.size, 2, none⟩ = some (.int .i64 p.to) ∧ w'.cell? ⟨w1.heap.size, 3, none⟩ = some (.int .u32 p.fi) ∧ w'.cell? ⟨w1.heap.size, 4, none⟩ = some (.int .u32 p.un) ∧ w'.cell? ⟨w1.heap.size, 5, none⟩ = some (.int .u32 p.ne) ∧ w'.cell? ⟨w1.heap.size, 6, none⟩ = some (.int .u32 p.wa) ∧ w'.cell? ⟨w1.heap.size, 7, none⟩ = some (.int .i64 p.wi) ∧ w'.cell? ⟨w1.heap.size, 8, none⟩ = some (.int .i64 p.ot) ∧ w'.cell? ⟨w1.heap.size, 9, none⟩ = some (.slice p.d.A p.d.n p.d.c) ∧ w'.cell? ⟨w1.heap.size, 10, none⟩ = some (.slice p.g.A p.g.n p.g.c))) (by kernel_rfl) (KP.out _ C7) (fun hHeld => ?_)
  refine wpAnyH_takeD (i := 0) (some 34) (v := ?_) rfl rfl (by kernel_rfl) (by kernel_rfl) (by kernel_rfl) (fun _ _ _ h => h) (Or.inl ⟨by rfl, ?_⟩) (by assumption) ?_
  rotate_left
  · (intro w hSw; (try dsimp only at hSw); go_simp; try with_reducible rfl)
  try simp only [Act.put, List.setIfInBounds_toArray, List.set_cons_zero, List.set_cons_succ]
  refine wpAnyH_takeD (i := 1) (some 35) (v := ?_) rfl rfl (by kernel_rfl) (by kernel_rfl) (by kernel_rfl) (fun _ _ _ h => h) (Or.inl ⟨by rfl, ?_⟩) (by assumption) ?_
  rotate_left
  · (intro w hSw; (try dsimp only at hSw); go_simp; try with_reducible rfl)
  try simp only [Act.put, List.setIfInBounds_toArray, List.set_cons_zero, List.set_cons_succ]
  refine wpAnyH_takeD (i := 2) (some 36) (v := ?_) rfl rfl (by kernel_rfl) (by kernel_rfl) (by kernel_rfl) (fun _ _ _ h => h) (Or.inl ⟨by rfl, ?_⟩) (by assumption) ?_
  rotate_left
  · (intro w hSw; (try dsimp only at hSw); go_simp; try with_reducible rfl)
  try simp only [Act.put, List.setIfInBounds_toArray, List.set_cons_zero, List.set_cons_succ]
  refine wpAnyH_takeD (i := 3) (some 37) (v := ?_) rfl rfl (by kernel_rfl) (by kernel_rfl) (by kernel_rfl) (fun _ _ _ h => h) (Or.inl ⟨by rfl, ?_⟩) (by assumption) ?_
  rotate_left
  · (intro w hSw; (try dsimp only at hSw); go_simp; try with_reducible rfl)
  try simp only [Act.put, List.setIfInBounds_toArray, List.set_cons_zero, List.set_cons_succ]
  refine wpAnyH_takeD (i := 4) (some 38) (v := ?_) rfl rfl (by kernel_rfl) (by kernel_rfl) (by kernel_rfl) (fun _ _ _ h => h) (Or.inl ⟨by rfl, ?_⟩) (by assumption) ?_
  rotate_left
  · (intro w hSw; (try dsimp only at hSw); go_simp; try with_reducible rfl)
  try simp only [Act.put, List.setIfInBounds_toArray, List.set_cons_zero, List.set_cons_succ]
  refine wpAnyH_takeD (i := 5) (some 39) (v := ?_) rfl rfl (by kernel_rfl) (by kernel_rfl) (by kernel_rfl) (fun _ _ _ h => h) (Or.inl ⟨by rfl, ?_⟩) (by assumption) ?_
  rotate_left
  · (intro w hSw; (try dsimp only at hSw); go_simp; try with_reducible rfl)
  try simp only [Act.put, List.setIfInBounds_toArray, List.set_cons_zero, List.set_cons_succ]
  refine wpAnyH_ready (rs := [6]) (by kernel_rfl) (by simp) ?_
  refine AllReadyH.cons (o := _) rfl (fun K hK => ?_) AllReadyH.nil
  rw [if_pos (by rfl)]
  refine wp_stM (pre := [.int .i64 z.P0.st, .int .i64 z.P0.port, .int .i64 z.P0.to, .int .u32 z.P0.fi, .int .u32 z.P0.un, .int .u32 z.P0.ne, .int .u32 z.P0.wa, .int .i64 z.P0.wi, .int .i64 z.P0.ot, .slice z.P0.d.A z.P0.d.n z.P0.d.c, .slice z.P0.g.A z.P0.g.n z.P0.g.c]) (cs := [.int .i64 z.P1.st, .int .i64 z.P1.port, .int .i64 z.P1.to, .int .u32 z.P1.fi, .int .u32 z.P1.un, .int .u32 z.P1.ne, .int .u32 z.P1.wa, .int .i64 z.P1.wi, .int .i64 z.P1.ot, .slice z.P1.d.A z.P1.d.n z.P1.d.c, .slice z.P1.g.A z.P1.g.n z.P1.g.c]) (ds := [.int .i64 p.st, .int .i64 p.port, .int .i64 p.to, .int .u32 p.fi, .int .u32 p.un, .int .u32 p.ne, .int .u32 p.wa, .int .i64 p.wi, .int .i64 p.ot, .slice p.d.A p.d.n p.d.c, .slice p.g.A p.g.n p.g.c]) (post := _) 26 _ _ rfl rfl (by rfl) (by rfl) (BlkV.fit HTM.out.drew.blk rfl) (by rfl) (peer_size (by rfl)) (by rfl) ?_
  intro w3 B3 h3
  have HTz := Lib.hid (HTM.out.drew.peer1 HPM.out.drew h3 (BlkV.fit B3 rfl))
  have C8 := (show BlkV wM.drew _ _ _ from BM).only h3 (by have := HGL.out; omega)
  have HOT := Lib.hid (OwnS.st (OwnS.drew HOTM.out) HTM.out.drew.blk h3 (by decide))
  refine hK.out _ _ (KP.out _ ((show BlkV wM.drew _ _ _ from C7).only h3 (by have := HGL.out; omega))) (fun hHeld => ?_)
  clear hK K
  try simp only [Act.put, List.setIfInBounds_toArray, List.set_cons_zero, List.set_cons_succ]
  refine wpAnyH_done (by kernel_rfl) ?_ _
  clear HTM HPM HOTM KP B3 h3 C7 BM hHeld
  have HTG := Lib.hid (show g < W.heap.size from HGL.out)
  cases ob
  · go_wp2_with fail
    have e0 : (Pb.sayC z.P1.con m).2 = none := by
      cases he : (Pb.sayC z.P1.con m).2 with
      | none => rfl
      | some x => have := HOB.out; rw [he] at this; cases this
    exact bodyPost_ret (v := .tuple #[]) (by simp [results, Try.results15, go_sem]) rfl ⟨rfl, _, HTz.out, by unfold Two.ct Pb.sayK; simp [HPC.out, e0]⟩
  · go_upto_region 9 with (fail)
    have KS : Hid (∀ w' : World, BlkV w' (w1.heap.size + 1) 37 [.int .i64 t.sp, .int .i64 t.dp, .int .u32 t.sq, .int .u32 t.ak, .int .i64 t.fl, .int .i64 t.wi, .int .i64 t.ur, .slice t.Ao t.no t.co, .slice t.Ab t.nb t.cb] → BlkV w' g 48 [.int .i64 z.P0.st, .int .i64 z.P0.port, .int .i64 z.P0.to, .int .u32 z.P0.fi, .int .u32 z.P0.un, .int .u32 z.P0.ne, .int .u32 z.P0.wa, .int .i64 z.P0.wi, .int .i64 z.P0.ot, .slice z.P0.d.A z.P0.d.n z.P0.d.c, .slice z.P0.g.A z.P0.g.n z.P0.g.c, .int .i64 p.st, .int .i64 p.port, .int .i64 p.to, .int .u32 p.fi, .int .u32 p.un, .int .u32 p.ne, .int .u32 p.wa, .int .i64 p.wi, .int .i64 p.ot, .slice p.d.A p.d.n p.d.c, .slice p.g.A p.g.n p.g.c, .slice z.A0 z.n0 z.c0, .slice z.A1 z.n1 z.c1] → (w'.cell? ⟨w1.heap.size + 1, 0, none⟩ = some (.int .i64 t.sp) ∧ w'.cell? ⟨w1.heap.size + 1, 1, none⟩ = some (.int .i64 t.dp) ∧ w'.cell? ⟨w1.heap.size + 1, 2, none⟩ = some (.int .u32 t.sq) ∧ w'.cell? ⟨w1.heap.size + 1, 3, none⟩ = some (.int .u32 t.ak) ∧ w'.cell? ⟨w1.heap.size + 1, 4, none⟩ = some (.int .i64 t.fl) ∧ w'.cell? ⟨w1.heap.size + 1, 5, none⟩ = some (.int .i64 t.wi) ∧ w'.cell? ⟨w1.heap.size + 1, 6, none⟩ = some (.int .i64 t.ur) ∧ w'.cell? ⟨w1.heap.size + 1, 7, none⟩ = some (.slice t.Ao t.no t.co) ∧ w'.cell? ⟨w1.heap.size + 1, 8, none⟩ = some (.slice t.Ab t.nb t.cb) ∧ w'.cell? ⟨g, 23, none⟩ = some (.slice z.A1 z.n1 z.c1))) := Lib.hid fun w' h k => by
      obtain ⟨h0, h1, h2, h3, h4, h5, h6, h7, h8⟩ := cells9 h
      exact ⟨h0, h1, h2, h3, h4, h5, h6, h7, h8, k.cell rfl⟩
    have NE8 : Hid ((Value.slice z.A1 z.n1 z.c1).ownBlock ≠ some (w1.heap.size + 1)) := Lib.hid fun e => by have h1 := HNE1.out _ e; have h2 := hs1; omega
    refine wp_region_X (S := fun w' => (w'.cell? ⟨w1.heap.size + 1, 0, none⟩ = some (.int .i64 t.sp) ∧ w'.cell? ⟨w1.heap.size + 1, 1, none⟩ = some (.int .i64 t.dp) ∧ w'.cell? ⟨w1.heap.size + 1, 2, none⟩ = some (.int .u32 t.sq) ∧ w'.cell? ⟨w1.heap.size + 1, 3, none⟩ = some (.int .u32 t.ak) ∧ w'.cell? ⟨w1.heap.size + 1, 4, none⟩ = some (.int .i64 t.fl) ∧ w'.cell? ⟨w1.heap.size + 1, 5, none⟩ = some (.int .i64 t.wi) ∧ w'.cell? ⟨w1.heap.size + 1, 6, none⟩ = some (.int .i64 t.ur) ∧ w'.cell? ⟨w1.heap.size + 1, 7, none⟩ = some (.slice t.Ao t.no t.co) ∧ w'.cell? ⟨w1.heap.size + 1, 8, none⟩ = some (.slice t.Ab t.nb t.cb) ∧ w'.cell? ⟨g, 23, none⟩ = some (.slice z.A1 z.n1 z.c1))) 14 (by kernel_rfl) (KS.out _ (show BlkV w3.drew _ _ _ from C8) (show BlkV w3.drew g 48 _ from BlkV.fit HTz.out.blk rfl)) (fun hHeld => ?_)
    refine wpAnyX_takeD (i := 0) (some 41) (v := ?_) rfl rfl (by kernel_rfl) (by kernel_rfl) (by kernel_rfl) (by kernel_rfl) (fun _ _ _ h => h) (Or.inl ⟨by rfl, ?_⟩) (by assumption) ?_
    rotate_left
    · (intro w hSw; (try dsimp only at hSw); go_simp; try with_reducible rfl)
    try simp only [Act.put, List.setIfInBounds_toArray, List.set_cons_zero, List.set_cons_succ]
    refine wpAnyX_takeD (i := 1) (some 42) (v := ?_) rfl rfl (by kernel_rfl) (by kernel_rfl) (by kernel_rfl) (by kernel_rfl) (fun _ _ _ h => h) (Or.inl ⟨by rfl, ?_⟩) (by assumption) ?_
    rotate_left
    · (intro w hSw; (try dsimp only at hSw); go_simp; try with_reducible rfl)
    try simp only [Act.put, List.setIfInBounds_toArray, List.set_cons_zero, List.set_cons_succ]
    refine wpAnyX_takeD (i := 2) (some 43) (v := ?_) rfl rfl (by kernel_rfl) (by kernel_rfl) (by kernel_rfl) (by kernel_rfl) (fun _ _ _ h => h) (Or.inl ⟨by rfl, ?_⟩) (by assumption) ?_
    rotate_left
    · (intro w hSw; (try dsimp only at hSw); go_simp; try with_reducible rfl)
    try simp only [Act.put, List.setIfInBounds_toArray, List.set_cons_zero, List.set_cons_succ]
    refine wpAnyX_takeD (i := 3) (some 44) (v := ?_) rfl rfl (by kernel_rfl) (by kernel_rfl) (by kernel_rfl) (by kernel_rfl) (fun _ _ _ h => h) (Or.inl ⟨by rfl, ?_⟩) (by assumption) ?_
    rotate_left
    · (intro w hSw; (try dsimp only at hSw); go_simp; try with_reducible rfl)
    try simp only [Act.put, List.setIfInBounds_toArray, List.set_cons_zero, List.set_cons_succ]
    refine wpAnyX_takeD (i := 4) (some 45) (v := ?_) rfl rfl (by kernel_rfl) (by kernel_rfl) (by kernel_rfl) (by kernel_rfl) (fun _ _ _ h => h) (Or.inl ⟨by rfl, ?_⟩) (by assumption) ?_
    rotate_left
    · (intro w hSw; (try dsimp only at hSw); go_simp; try with_reducible rfl)
    try simp only [Act.put, List.setIfInBounds_toArray, List.set_cons_zero, List.set_cons_succ]
    refine wpAnyX_takeD (i := 5) (some 46) (v := ?_) rfl rfl (by kernel_rfl) (by kernel_rfl) (by kernel_rfl) (by kernel_rfl) (fun _ _ _ h => h) (Or.inl ⟨by rfl, ?_⟩) (by assumption) ?_
    rotate_left
    · (intro w hSw; (try dsimp only at hSw); go_simp; try with_reducible rfl)
    try simp only [Act.put, List.setIfInBounds_toArray, List.set_cons_zero, List.set_cons_succ]
    refine wpAnyX_takeD (i := 6) (some 47) (v := ?_) rfl rfl (by kernel_rfl) (by kernel_rfl) (by kernel_rfl) (by kernel_rfl) (fun _ _ _ h => h) (Or.inl ⟨by rfl, ?_⟩) (by assumption) ?_
    rotate_left
    · (intro w hSw; (try dsimp only at hSw); go_simp; try with_reducible rfl)
    try simp only [Act.put, List.setIfInBounds_toArray, List.set_cons_zero, List.set_cons_succ]
    refine wpAnyX_takeD (i := 7) (some 48) (v := ?_) rfl rfl (by kernel_rfl) (by kernel_rfl) (by kernel_rfl) (by kernel_rfl) (fun _ _ _ h => h) (Or.inl ⟨by rfl, ?_⟩) (by assumption) ?_
    rotate_left
    · (intro w hSw; (try dsimp only at hSw); go_simp; try with_reducible rfl)
    try simp only [Act.put, List.setIfInBounds_toArray, List.set_cons_zero, List.set_cons_succ]
    refine wpAnyX_takeD (i := 8) (some 49) (v := ?_) rfl rfl (by kernel_rfl) (by kernel_rfl) (by kernel_rfl) (by kernel_rfl) (fun _ _ _ h => h) (Or.inl ⟨by rfl, ?_⟩) (by assumption) ?_
    rotate_left
    · (intro w hSw; (try dsimp only at hSw); go_simp; try with_reducible rfl)
    try simp only [Act.put, List.setIfInBounds_toArray, List.set_cons_zero, List.set_cons_succ]
    refine wpAnyX_takeD (i := 11) (some 52) (v := ?_) rfl rfl (by kernel_rfl) (by kernel_rfl) (by kernel_rfl) (by kernel_rfl) (fun _ _ _ h => h) (Or.inl ⟨by rfl, ?_⟩) (by assumption) ?_
    rotate_left
    · (intro w hSw; (try dsimp only at hSw); go_simp; try with_reducible rfl)
    try simp only [Act.put, List.setIfInBounds_toArray, List.set_cons_zero, List.set_cons_succ]
    refine wpAnyX_takeD (i := 12) (some 53) (v := ?_) rfl rfl (by kernel_rfl) (by kernel_rfl) (by kernel_rfl) (by kernel_rfl) (fun _ _ _ h => h) (Or.inl ⟨by rfl, ?_⟩) (by assumption) ?_
    rotate_left
    · (intro w hSw; (try dsimp only at hSw); go_simp; try with_reducible rfl)
    try simp only [Act.put, List.setIfInBounds_toArray, List.set_cons_zero, List.set_cons_succ]
    refine wpAnyX_ready (rs := [9]) (by kernel_rfl) (by simp) ?_
    refine AllReadyX.cons (o := _) rfl (fun K hK => ?_) AllReadyX.nil
    go_simp
    first | refine ct_gen (fun y1 hy1 => ?_) | refine ct_gend (fun y1 hy1 => ?_)
    have hby : Below w3.heap.size w3 y1 := by rw [hy1]; first | exact bel_a (bel_d (Below.refl _ _)) _ | exact bel_d (bel_a (Below.refl _ _) _)
    have HRD : Hid (Rd y1 9 (some ⟨w3.heap.size, 0, none⟩) 1 t.cells) := Lib.hid (by rw [hy1]; first | exact rd_seg w3.drew t | exact (rd_seg w3 t).drew)
    have HTy := Lib.hid (HTz.out.below hby)
    have SBy := BlkV.below C8 hby
    have hsy := hby.size
    clear hy1
    refine hK.out _ _ (KS.out _ SBy (BlkV.fit HTy.out.blk rfl)) (fun hHeld => ?_)
    clear hK K
    try simp only [Act.put, List.setIfInBounds_toArray, List.set_cons_zero, List.set_cons_succ]
    refine wpAnyX_ready (rs := [10]) (by kernel_rfl) (by simp) ?_
    refine AllReadyX.cons (o := _) rfl (fun K hK => ?_) AllReadyX.nil
    refine step_app9 (by rfl) (.tmp 48) (.tmp 50) 45 (by rfl) w0 HTy.out.bel 37 _ 9 96 Try.underlying45 info_tcp rfl (by decide) (.slice z.A1 z.n1 z.c1) z.n1 (segCells z.l1) (by rfl) HTy.out.r1 (some ⟨w3.heap.size, 0, none⟩) 1 1 t.cells (by rfl) HRD.out (by rw [← segCells_one]; exact one_segs _) (by unfold maxLen; omega) (by omega) ?_
    intro A6 k6 y2 hown hby2 hgr hat
    have SB2 := SBy.grown hgr NE8.out
    have BG2 := HTy.out.blk.grown hgr (own_ne (m := 0) HTy.out.r1 HTy.out.blk (by decide))
    have HOWN := Lib.hid hown
    have HGR := Lib.hid hgr
    have HBY2 := Lib.hid hby2
    have HAT := Lib.hid hat
    clear hown hgr hby2 hat
    refine hK.out _ _ (KS.out _ SB2 (BlkV.fit BG2 rfl)) (fun hHeld => ?_)
    clear hK K
    try simp only [Act.put, List.setIfInBounds_toArray, List.set_cons_zero, List.set_cons_succ]
    refine wpAnyX_takeD (i := 13) (some 54) (v := ?_) rfl rfl (by kernel_rfl) (by kernel_rfl) (by kernel_rfl) (by kernel_rfl) (fun _ _ _ h => h) (Or.inl ⟨by rfl, ?_⟩) (by assumption) ?_
    rotate_left
    · (intro w hSw; (try dsimp only at hSw); go_simp; try with_reducible rfl)
    try simp only [Act.put, List.setIfInBounds_toArray, List.set_cons_zero, List.set_cons_succ]
    refine wpAnyX_ready (rs := [14]) (by kernel_rfl) (by simp) ?_
    refine AllReadyX.last (o := _) rfl (by kernel_rfl) (fun K hK => ?_)
    rw [if_pos (by rfl)]
    refine wp_stF 45 _ _ 23 (.slice A6 (z.n1 + 1) k6) rfl (by rfl) (by rfl) (by rfl) BG2 (by simp) (by kernel_rfl) rfl ?_
    intro w6 B6 h6
    refine hK.out _ _ ?_
    clear hK K
    try simp only [Act.put, List.setIfInBounds_toArray, List.set_cons_zero, List.set_cons_succ]
    refine wpAnyX_done (by kernel_rfl) ?_ _
    have HT6 := Lib.hid (HTy.out.way1 HGR.out HBY2.out (l := z.l1 ++ [t]) (by rw [segCells_app, segCells_one]; exact HOWN.out) (fun x hx => by rcases List.mem_append.1 hx with hx | hx; exact HTy.out.t1 x hx; rw [List.mem_singleton.1 hx]; exact HOT.out.below hby) (HAT.out.imp id (fun e k h => by rw [e] at h; injection h with h; omega)) h6 (BlkV.fit B6 rfl))
    clear HTy HTz SBy SB2 BG2 HOWN HGR HBY2 HAT KS NE8 HRD B6 h6 hby hHeld
    go_wp2_with fail
    have e0 : (Pb.sayC z.P1.con m).2 = some t.con := by
      cases he : (Pb.sayC z.P1.con m).2 with
      | none => have := HOB.out; rw [he] at this; cases this
      | some x => have := HTC.out; rw [he] at this; rw [this]; rfl
    exact bodyPost_ret (v := .tuple #[]) (by simp [results, Try.results15, go_sem]) rfl ⟨rfl, _, HT6.out, by unfold Two.ct Pb.sayK; simp [HPC.out, e0]⟩
end Go.Proofs.Ytihhcalgjkkalaa
