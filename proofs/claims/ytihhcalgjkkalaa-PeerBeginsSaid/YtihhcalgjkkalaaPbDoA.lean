/- The walk of what happens between two: a side begins again. (Printed by tools/gen_pbdo.py.) -/
import Derived.Test.YtihhcalgjkkalaaPbMem
namespace Go.Proofs.Ytihhcalgjkkalaa
open Go.RowKit
set_option linter.unusedVariables false
set_option linter.unusedSimpArgs false
set_option maxRecDepth 8000
set_option maxHeartbeats 4000000 in
theorem do_again0 (w0 w : World) (g : Nat) (z : Two) (h : TwoM w0 g z w) (kd at_ m : Int) (hk : 0 ≤ kd ∧ kd ≤ 255) (h5 : kd % 5 = 1) (hr : Pb.rightC z.P0.con = true) :
    Calls Try.prog 15 #[.pointer (some ⟨g, 0, none⟩), .agg #[.int .u8 kd, .bool false, .int .u8 at_], .int .i64 m] w fun e w' => e = .returned (.tuple #[]) ∧ ∃ p, p.con = Pb.againC z.P0.con ∧ TwoM w0 g { z with P0 := p } w' := by
  have HR := Lib.hid hr
  clear hr
  obtain ⟨W, hW⟩ : ∃ W, W = w.alloc (.cells #[.int .u8 kd, .bool false, .int .u8 at_] 51) := ⟨_, rfl⟩
  have hbW : Below w.heap.size w W := by rw [hW]; exact (Below.refl _ _).alloc (Nat.le_refl _) _
  have BD : BlkV W w.heap.size 51 [.int .u8 kd, .bool false, .int .u8 at_] := by rw [hW]; exact BlkV.new _ _ _
  have hWs : W.heap.size = w.heap.size + 1 := by rw [hW]; simp
  have HT := Lib.hid (h.below hbW)
  have d0 := cellF BD 0 rfl
  have d1 := cellF BD 1 rfl
  clear h
  go_enter Try.func15, Try.ntmps15
  go_upto_region 1 with (fail)
  rw [← hW]
  clear hW
  go_upto_region 11 with (fail)
  have HA := Lib.hid (pagain_spec z.P0 W.drew w0.heap.size HT.out.drew.o0 HR.out)
  refine wp_region_held_drew (S := fun _ => True) (by kernel_rfl) trivial (fun hHeld => ?_)
  refine wpAnyH_takeD (i := 0) (some 57) (v := ?_) rfl rfl (by kernel_rfl) (by kernel_rfl) (by kernel_rfl) (fun _ _ _ h => h) (Or.inl ⟨by rfl, ?_⟩) (by assumption) ?_
  rotate_left
  · (intro w hSw; (try dsimp only at hSw); go_simp; try with_reducible rfl)
  try simp only [Act.put, List.setIfInBounds_toArray, List.set_cons_zero, List.set_cons_succ]
  refine wpAnyH_takeD (i := 1) (some 58) (v := ?_) rfl rfl (by kernel_rfl) (by kernel_rfl) (by kernel_rfl) (fun _ _ _ h => h) (Or.inl ⟨by rfl, ?_⟩) (by assumption) ?_
  rotate_left
  · (intro w hSw; (try dsimp only at hSw); go_simp; try with_reducible rfl)
  try simp only [Act.put, List.setIfInBounds_toArray, List.set_cons_zero, List.set_cons_succ]
  refine wpAnyH_takeD (i := 2) (some 59) (v := ?_) rfl rfl (by kernel_rfl) (by kernel_rfl) (by kernel_rfl) (fun _ _ _ h => h) (Or.inl ⟨by rfl, ?_⟩) (by assumption) ?_
  rotate_left
  · (intro w hSw; (try dsimp only at hSw); go_simp; try with_reducible rfl)
  try simp only [Act.put, List.setIfInBounds_toArray, List.set_cons_zero, List.set_cons_succ]
  refine wpAnyH_takeD (i := 3) (some 60) (v := ?_) rfl rfl (by kernel_rfl) (by kernel_rfl) (by kernel_rfl) (fun _ _ _ h => h) (Or.inl ⟨by rfl, ?_⟩) (by assumption) ?_
  rotate_left
  · (intro w hSw; (try dsimp only at hSw); go_simp; try with_reducible rfl)
  try simp only [Act.put, List.setIfInBounds_toArray, List.set_cons_zero, List.set_cons_succ]
  refine wpAnyH_takeD (i := 4) (some 61) (v := ?_) rfl rfl (by kernel_rfl) (by kernel_rfl) (by kernel_rfl) (fun _ _ _ h => h) (Or.inl ⟨by rfl, ?_⟩) (by assumption) ?_
  rotate_left
  · (intro w hSw; (try dsimp only at hSw); go_simp; try with_reducible rfl)
  try simp only [Act.put, List.setIfInBounds_toArray, List.set_cons_zero, List.set_cons_succ]
  refine wpAnyH_takeD (i := 5) (some 62) (v := ?_) rfl rfl (by kernel_rfl) (by kernel_rfl) (by kernel_rfl) (fun _ _ _ h => h) (Or.inl ⟨by rfl, ?_⟩) (by assumption) ?_
  rotate_left
  · (intro w hSw; (try dsimp only at hSw); go_simp; try with_reducible rfl)
  try simp only [Act.put, List.setIfInBounds_toArray, List.set_cons_zero, List.set_cons_succ]
  refine wpAnyH_takeD (i := 6) (some 63) (v := ?_) rfl rfl (by kernel_rfl) (by kernel_rfl) (by kernel_rfl) (fun _ _ _ h => h) (Or.inl ⟨by rfl, ?_⟩) (by assumption) ?_
  rotate_left
  · (intro w hSw; (try dsimp only at hSw); go_simp; try with_reducible rfl)
  try simp only [Act.put, List.setIfInBounds_toArray, List.set_cons_zero, List.set_cons_succ]
  refine wpAnyH_takeD (i := 9) (some 66) (v := ?_) rfl rfl (by kernel_rfl) (by kernel_rfl) (by kernel_rfl) (fun _ _ _ h => h) (Or.inl ⟨by rfl, ?_⟩) (by assumption) ?_
  rotate_left
  · (intro w hSw; (try dsimp only at hSw); go_simp; try with_reducible rfl)
  try simp only [Act.put, List.setIfInBounds_toArray, List.set_cons_zero, List.set_cons_succ]
  refine wpAnyH_takeD (i := 10) (some 67) (v := ?_) rfl rfl (by kernel_rfl) (by kernel_rfl) (by kernel_rfl) (fun _ _ _ h => h) (Or.inl ⟨by rfl, ?_⟩) (by assumption) ?_
  rotate_left
  · (intro w hSw; (try dsimp only at hSw); go_simp; try with_reducible rfl)
  try simp only [Act.put, List.setIfInBounds_toArray, List.set_cons_zero, List.set_cons_succ]
  refine wpAnyH_ready (rs := [7]) (by kernel_rfl) (by simp) ?_
  refine AllReadyH.cons (o := _) rfl (fun K hK => ?_) AllReadyH.nil
  rw [if_pos (by rfl)]
  refine wp_ldM (pre := ([] : List Value)) (cs := [.int .i64 z.P0.st, .int .i64 z.P0.port, .int .i64 z.P0.to, .int .u32 z.P0.fi, .int .u32 z.P0.un, .int .u32 z.P0.ne, .int .u32 z.P0.wa, .int .i64 z.P0.wi, .int .i64 z.P0.ot, .slice z.P0.d.A z.P0.d.n z.P0.d.c, .slice z.P0.g.A z.P0.g.n z.P0.g.c]) (post := _) 26 _ _ rfl (by rfl) (BlkV.fit (show BlkV W.drew g 48 [.int .i64 z.P0.st, .int .i64 z.P0.port, .int .i64 z.P0.to, .int .u32 z.P0.fi, .int .u32 z.P0.un, .int .u32 z.P0.ne, .int .u32 z.P0.wa, .int .i64 z.P0.wi, .int .i64 z.P0.ot, .slice z.P0.d.A z.P0.d.n z.P0.d.c, .slice z.P0.g.A z.P0.g.n z.P0.g.c, .int .i64 z.P1.st, .int .i64 z.P1.port, .int .i64 z.P1.to, .int .u32 z.P1.fi, .int .u32 z.P1.un, .int .u32 z.P1.ne, .int .u32 z.P1.wa, .int .i64 z.P1.wi, .int .i64 z.P1.ot, .slice z.P1.d.A z.P1.d.n z.P1.d.c, .slice z.P1.g.A z.P1.g.n z.P1.g.c, .slice z.A0 z.n0 z.c0, .slice z.A1 z.n1 z.c1] from HT.out.blk) rfl) Try.underlying26 rfl (peer_size (by rfl)) ?_
  refine hK.out _ _ trivial (fun hHeld => ?_)
  clear hK K
  try simp only [Act.put, List.setIfInBounds_toArray, List.set_cons_zero, List.set_cons_succ]
  refine wpAnyH_ready (rs := [8]) (by kernel_rfl) (by simp) ?_
  refine AllReadyH.cons (o := _) rfl (fun K hK => ?_) AllReadyH.nil
  go_simp
  refine HA.out.mono ?_
  rintro e w1 ⟨hb1, p, rfl, hp, hpc⟩
  go_wp2_with fail
  refine hK.out _ _ trivial (fun hHeld => ?_)
  clear hK K
  try simp only [Act.put, List.setIfInBounds_toArray, List.set_cons_zero, List.set_cons_succ]
  have HT1 := Lib.hid (HT.out.drew.below hb1)
  have HP := Lib.hid (hp.weak HT.out.drew.bel.size)
  have HPC := Lib.hid hpc
  clear hp hpc HA
  refine wpAnyH_takeD (i := 11) (some 68) (v := ?_) rfl rfl (by kernel_rfl) (by kernel_rfl) (by kernel_rfl) (fun _ _ _ h => h) (Or.inl ⟨by rfl, ?_⟩) (by assumption) ?_
  rotate_left
  · (intro w hSw; (try dsimp only at hSw); go_simp; try with_reducible rfl)
  try simp only [Act.put, List.setIfInBounds_toArray, List.set_cons_zero, List.set_cons_succ]
  refine wpAnyH_ready (rs := [12]) (by kernel_rfl) (by simp) ?_
  refine AllReadyH.cons (o := _) rfl (fun K hK => ?_) AllReadyH.nil
  rw [if_pos (by rfl)]
  refine wp_stM (pre := ([] : List Value)) (cs := [.int .i64 z.P0.st, .int .i64 z.P0.port, .int .i64 z.P0.to, .int .u32 z.P0.fi, .int .u32 z.P0.un, .int .u32 z.P0.ne, .int .u32 z.P0.wa, .int .i64 z.P0.wi, .int .i64 z.P0.ot, .slice z.P0.d.A z.P0.d.n z.P0.d.c, .slice z.P0.g.A z.P0.g.n z.P0.g.c]) (ds := [.int .i64 p.st, .int .i64 p.port, .int .i64 p.to, .int .u32 p.fi, .int .u32 p.un, .int .u32 p.ne, .int .u32 p.wa, .int .i64 p.wi, .int .i64 p.ot, .slice p.d.A p.d.n p.d.c, .slice p.g.A p.g.n p.g.c]) (post := _) 26 _ _ rfl rfl (by rfl) (by rfl) (BlkV.fit HT1.out.blk rfl) (by rfl) (peer_size (by rfl)) (by rfl) ?_
  intro w2 B2 h2
  refine hK.out _ _ trivial (fun hHeld => ?_)
  clear hK K
  try simp only [Act.put, List.setIfInBounds_toArray, List.set_cons_zero, List.set_cons_succ]
  refine wpAnyH_done (by kernel_rfl) ?_ _
  go_wp2_with fail
  exact bodyPost_ret (v := .tuple #[]) (by simp [results, Try.results15, go_sem]) rfl ⟨rfl, p, HPC.out, HT1.out.peer0 HP.out h2 (BlkV.fit B2 rfl)⟩
set_option maxHeartbeats 4000000 in
theorem do_again1 (w0 w : World) (g : Nat) (z : Two) (h : TwoM w0 g z w) (kd at_ m : Int) (hk : 0 ≤ kd ∧ kd ≤ 255) (h5 : kd % 5 = 1) (hr : Pb.rightC z.P1.con = true) :
    Calls Try.prog 15 #[.pointer (some ⟨g, 0, none⟩), .agg #[.int .u8 kd, .bool true, .int .u8 at_], .int .i64 m] w fun e w' => e = .returned (.tuple #[]) ∧ ∃ p, p.con = Pb.againC z.P1.con ∧ TwoM w0 g { z with P1 := p } w' := by
  have HR := Lib.hid hr
  clear hr
  obtain ⟨W, hW⟩ : ∃ W, W = w.alloc (.cells #[.int .u8 kd, .bool true, .int .u8 at_] 51) := ⟨_, rfl⟩
  have hbW : Below w.heap.size w W := by rw [hW]; exact (Below.refl _ _).alloc (Nat.le_refl _) _
  have BD : BlkV W w.heap.size 51 [.int .u8 kd, .bool true, .int .u8 at_] := by rw [hW]; exact BlkV.new _ _ _
  have hWs : W.heap.size = w.heap.size + 1 := by rw [hW]; simp
  have HT := Lib.hid (h.below hbW)
  have d0 := cellF BD 0 rfl
  have d1 := cellF BD 1 rfl
  clear h
  go_enter Try.func15, Try.ntmps15
  go_upto_region 1 with (fail)
  rw [← hW]
  clear hW
  go_upto_region 11 with (fail)
  have HA := Lib.hid (pagain_spec z.P1 W.drew w0.heap.size HT.out.drew.o1 HR.out)
  refine wp_region_held_drew (S := fun _ => True) (by kernel_rfl) trivial (fun hHeld => ?_)
  refine wpAnyH_takeD (i := 0) (some 57) (v := ?_) rfl rfl (by kernel_rfl) (by kernel_rfl) (by kernel_rfl) (fun _ _ _ h => h) (Or.inl ⟨by rfl, ?_⟩) (by assumption) ?_
  rotate_left
  · (intro w hSw; (try dsimp only at hSw); go_simp; try with_reducible rfl)
  try simp only [Act.put, List.setIfInBounds_toArray, List.set_cons_zero, List.set_cons_succ]
  refine wpAnyH_takeD (i := 1) (some 58) (v := ?_) rfl rfl (by kernel_rfl) (by kernel_rfl) (by kernel_rfl) (fun _ _ _ h => h) (Or.inl ⟨by rfl, ?_⟩) (by assumption) ?_
  rotate_left
  · (intro w hSw; (try dsimp only at hSw); go_simp; try with_reducible rfl)
  try simp only [Act.put, List.setIfInBounds_toArray, List.set_cons_zero, List.set_cons_succ]
  refine wpAnyH_takeD (i := 2) (some 59) (v := ?_) rfl rfl (by kernel_rfl) (by kernel_rfl) (by kernel_rfl) (fun _ _ _ h => h) (Or.inl ⟨by rfl, ?_⟩) (by assumption) ?_
  rotate_left
  · (intro w hSw; (try dsimp only at hSw); go_simp; try with_reducible rfl)
  try simp only [Act.put, List.setIfInBounds_toArray, List.set_cons_zero, List.set_cons_succ]
  refine wpAnyH_takeD (i := 3) (some 60) (v := ?_) rfl rfl (by kernel_rfl) (by kernel_rfl) (by kernel_rfl) (fun _ _ _ h => h) (Or.inl ⟨by rfl, ?_⟩) (by assumption) ?_
  rotate_left
  · (intro w hSw; (try dsimp only at hSw); go_simp; try with_reducible rfl)
  try simp only [Act.put, List.setIfInBounds_toArray, List.set_cons_zero, List.set_cons_succ]
  refine wpAnyH_takeD (i := 4) (some 61) (v := ?_) rfl rfl (by kernel_rfl) (by kernel_rfl) (by kernel_rfl) (fun _ _ _ h => h) (Or.inl ⟨by rfl, ?_⟩) (by assumption) ?_
  rotate_left
  · (intro w hSw; (try dsimp only at hSw); go_simp; try with_reducible rfl)
  try simp only [Act.put, List.setIfInBounds_toArray, List.set_cons_zero, List.set_cons_succ]
  refine wpAnyH_takeD (i := 5) (some 62) (v := ?_) rfl rfl (by kernel_rfl) (by kernel_rfl) (by kernel_rfl) (fun _ _ _ h => h) (Or.inl ⟨by rfl, ?_⟩) (by assumption) ?_
  rotate_left
  · (intro w hSw; (try dsimp only at hSw); go_simp; try with_reducible rfl)
  try simp only [Act.put, List.setIfInBounds_toArray, List.set_cons_zero, List.set_cons_succ]
  refine wpAnyH_takeD (i := 6) (some 63) (v := ?_) rfl rfl (by kernel_rfl) (by kernel_rfl) (by kernel_rfl) (fun _ _ _ h => h) (Or.inl ⟨by rfl, ?_⟩) (by assumption) ?_
  rotate_left
  · (intro w hSw; (try dsimp only at hSw); go_simp; try with_reducible rfl)
  try simp only [Act.put, List.setIfInBounds_toArray, List.set_cons_zero, List.set_cons_succ]
  refine wpAnyH_takeD (i := 9) (some 66) (v := ?_) rfl rfl (by kernel_rfl) (by kernel_rfl) (by kernel_rfl) (fun _ _ _ h => h) (Or.inl ⟨by rfl, ?_⟩) (by assumption) ?_
  rotate_left
  · (intro w hSw; (try dsimp only at hSw); go_simp; try with_reducible rfl)
  try simp only [Act.put, List.setIfInBounds_toArray, List.set_cons_zero, List.set_cons_succ]
  refine wpAnyH_takeD (i := 10) (some 67) (v := ?_) rfl rfl (by kernel_rfl) (by kernel_rfl) (by kernel_rfl) (fun _ _ _ h => h) (Or.inl ⟨by rfl, ?_⟩) (by assumption) ?_
  rotate_left
  · (intro w hSw; (try dsimp only at hSw); go_simp; try with_reducible rfl)
  try simp only [Act.put, List.setIfInBounds_toArray, List.set_cons_zero, List.set_cons_succ]
  refine wpAnyH_ready (rs := [7]) (by kernel_rfl) (by simp) ?_
  refine AllReadyH.cons (o := _) rfl (fun K hK => ?_) AllReadyH.nil
  rw [if_pos (by rfl)]
  refine wp_ldM (pre := [.int .i64 z.P0.st, .int .i64 z.P0.port, .int .i64 z.P0.to, .int .u32 z.P0.fi, .int .u32 z.P0.un, .int .u32 z.P0.ne, .int .u32 z.P0.wa, .int .i64 z.P0.wi, .int .i64 z.P0.ot, .slice z.P0.d.A z.P0.d.n z.P0.d.c, .slice z.P0.g.A z.P0.g.n z.P0.g.c]) (cs := [.int .i64 z.P1.st, .int .i64 z.P1.port, .int .i64 z.P1.to, .int .u32 z.P1.fi, .int .u32 z.P1.un, .int .u32 z.P1.ne, .int .u32 z.P1.wa, .int .i64 z.P1.wi, .int .i64 z.P1.ot, .slice z.P1.d.A z.P1.d.n z.P1.d.c, .slice z.P1.g.A z.P1.g.n z.P1.g.c]) (post := _) 26 _ _ rfl (by rfl) (BlkV.fit (show BlkV W.drew g 48 [.int .i64 z.P0.st, .int .i64 z.P0.port, .int .i64 z.P0.to, .int .u32 z.P0.fi, .int .u32 z.P0.un, .int .u32 z.P0.ne, .int .u32 z.P0.wa, .int .i64 z.P0.wi, .int .i64 z.P0.ot, .slice z.P0.d.A z.P0.d.n z.P0.d.c, .slice z.P0.g.A z.P0.g.n z.P0.g.c, .int .i64 z.P1.st, .int .i64 z.P1.port, .int .i64 z.P1.to, .int .u32 z.P1.fi, .int .u32 z.P1.un, .int .u32 z.P1.ne, .int .u32 z.P1.wa, .int .i64 z.P1.wi, .int .i64 z.P1.ot, .slice z.P1.d.A z.P1.d.n z.P1.d.c, .slice z.P1.g.A z.P1.g.n z.P1.g.c, .slice z.A0 z.n0 z.c0, .slice z.A1 z.n1 z.c1] from HT.out.blk) rfl) Try.underlying26 rfl (peer_size (by rfl)) ?_
  refine hK.out _ _ trivial (fun hHeld => ?_)
  clear hK K
  try simp only [Act.put, List.setIfInBounds_toArray, List.set_cons_zero, List.set_cons_succ]
  refine wpAnyH_ready (rs := [8]) (by kernel_rfl) (by simp) ?_
  refine AllReadyH.cons (o := _) rfl (fun K hK => ?_) AllReadyH.nil
  go_simp
  refine HA.out.mono ?_
  rintro e w1 ⟨hb1, p, rfl, hp, hpc⟩
  go_wp2_with fail
  refine hK.out _ _ trivial (fun hHeld => ?_)
  clear hK K
  try simp only [Act.put, List.setIfInBounds_toArray, List.set_cons_zero, List.set_cons_succ]
  have HT1 := Lib.hid (HT.out.drew.below hb1)
  have HP := Lib.hid (hp.weak HT.out.drew.bel.size)
  have HPC := Lib.hid hpc
  clear hp hpc HA
  refine wpAnyH_takeD (i := 11) (some 68) (v := ?_) rfl rfl (by kernel_rfl) (by kernel_rfl) (by kernel_rfl) (fun _ _ _ h => h) (Or.inl ⟨by rfl, ?_⟩) (by assumption) ?_
  rotate_left
  · (intro w hSw; (try dsimp only at hSw); go_simp; try with_reducible rfl)
  try simp only [Act.put, List.setIfInBounds_toArray, List.set_cons_zero, List.set_cons_succ]
  refine wpAnyH_ready (rs := [12]) (by kernel_rfl) (by simp) ?_
  refine AllReadyH.cons (o := _) rfl (fun K hK => ?_) AllReadyH.nil
  rw [if_pos (by rfl)]
  refine wp_stM (pre := [.int .i64 z.P0.st, .int .i64 z.P0.port, .int .i64 z.P0.to, .int .u32 z.P0.fi, .int .u32 z.P0.un, .int .u32 z.P0.ne, .int .u32 z.P0.wa, .int .i64 z.P0.wi, .int .i64 z.P0.ot, .slice z.P0.d.A z.P0.d.n z.P0.d.c, .slice z.P0.g.A z.P0.g.n z.P0.g.c]) (cs := [.int .i64 z.P1.st, .int .i64 z.P1.port, .int .i64 z.P1.to, .int .u32 z.P1.fi, .int .u32 z.P1.un, .int .u32 z.P1.ne, .int .u32 z.P1.wa, .int .i64 z.P1.wi, .int .i64 z.P1.ot, .slice z.P1.d.A z.P1.d.n z.P1.d.c, .slice z.P1.g.A z.P1.g.n z.P1.g.c]) (ds := [.int .i64 p.st, .int .i64 p.port, .int .i64 p.to, .int .u32 p.fi, .int .u32 p.un, .int .u32 p.ne, .int .u32 p.wa, .int .i64 p.wi, .int .i64 p.ot, .slice p.d.A p.d.n p.d.c, .slice p.g.A p.g.n p.g.c]) (post := _) 26 _ _ rfl rfl (by rfl) (by rfl) (BlkV.fit HT1.out.blk rfl) (by rfl) (peer_size (by rfl)) (by rfl) ?_
  intro w2 B2 h2
  refine hK.out _ _ trivial (fun hHeld => ?_)
  clear hK K
  try simp only [Act.put, List.setIfInBounds_toArray, List.set_cons_zero, List.set_cons_succ]
  refine wpAnyH_done (by kernel_rfl) ?_ _
  go_wp2_with fail
  exact bodyPost_ret (v := .tuple #[]) (by simp [results, Try.results15, go_sem]) rfl ⟨rfl, p, HPC.out, HT1.out.peer1 HP.out h2 (BlkV.fit B2 rfl)⟩
end Go.Proofs.Ytihhcalgjkkalaa
