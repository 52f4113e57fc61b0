/- The walk of what happens between two: no segment; one comes twice. (Printed by tools/gen_pbdo.py.) -/
import Derived.Test.YtihhcalgjkkalaaPbMem
import Derived.Test.YtihhcalgjkkalaaOrders
namespace Go.Proofs.Ytihhcalgjkkalaa
open Go.RowKit
set_option linter.unusedVariables false
set_option linter.unusedSimpArgs false
set_option maxRecDepth 8000
set_option maxHeartbeats 4000000 in
theorem do_empty0 (w0 w : World) (g : Nat) (z : Two) (h : TwoM w0 g z w) (kd at_ m : Int) (hk : 0 ≤ kd ∧ kd ≤ 255) (h50 : (kd % 5 == 0) = false) (h51 : (kd % 5 == 1) = false) (hn : z.n0 = 0) :
    Calls Try.prog 15 #[.pointer (some ⟨g, 0, none⟩), .agg #[.int .u8 kd, .bool false, .int .u8 at_], .int .i64 m] w fun e w' => e = .returned (.tuple #[]) ∧ TwoM w0 g z w' := by
  have hn' : (z.n0 : Int) = 0 := by omega
  obtain ⟨W, hW⟩ : ∃ W, W = w.alloc (.cells #[.int .u8 kd, .bool false, .int .u8 at_] 51) := ⟨_, rfl⟩
  have hbW : Below w.heap.size w W := by rw [hW]; exact (Below.refl _ _).alloc (Nat.le_refl _) _
  have BD : BlkV W w.heap.size 51 [.int .u8 kd, .bool false, .int .u8 at_] := by rw [hW]; exact BlkV.new _ _ _
  have hWs : W.heap.size = w.heap.size + 1 := by rw [hW]; simp
  have HT := Lib.hid (h.below hbW)
  have HGW0 := Lib.hid h.blk.lt
  have HGW := Lib.hid (show g < w.heap.size from HGW0.out)
  have HNE0 : Hid (∀ g, (Value.slice z.A0 z.n0 z.c0).ownBlock = some g → g < W.heap.size) := Lib.hid fun g hg => (HT.out.r0.lt g hg).2
  have HNE1 : Hid (∀ g, (Value.slice z.A1 z.n1 z.c1).ownBlock = some g → g < W.heap.size) := Lib.hid fun g hg => (HT.out.r1.lt g hg).2
  have d0 := cellF BD 0 rfl
  have d1 := cellF BD 1 rfl
  clear h
  go_enter Try.func15, Try.ntmps15
  go_upto_region 1 with (fail)
  rw [← hW]
  clear hW
  go_upto_region 12 with (fail)
  have cw : W.cell? ⟨g, 22, none⟩ = some (.slice z.A0 z.n0 z.c0) := HT.out.blk.cell rfl
  go_wp2_with fail
  exact bodyPost_ret (v := .tuple #[]) (by simp [results, Try.results15, go_sem]) rfl ⟨rfl, HT.out⟩
set_option maxHeartbeats 4000000 in
theorem do_empty1 (w0 w : World) (g : Nat) (z : Two) (h : TwoM w0 g z w) (kd at_ m : Int) (hk : 0 ≤ kd ∧ kd ≤ 255) (h50 : (kd % 5 == 0) = false) (h51 : (kd % 5 == 1) = false) (hn : z.n1 = 0) :
    Calls Try.prog 15 #[.pointer (some ⟨g, 0, none⟩), .agg #[.int .u8 kd, .bool true, .int .u8 at_], .int .i64 m] w fun e w' => e = .returned (.tuple #[]) ∧ TwoM w0 g z w' := by
  have hn' : (z.n1 : Int) = 0 := by omega
  obtain ⟨W, hW⟩ : ∃ W, W = w.alloc (.cells #[.int .u8 kd, .bool true, .int .u8 at_] 51) := ⟨_, rfl⟩
  have hbW : Below w.heap.size w W := by rw [hW]; exact (Below.refl _ _).alloc (Nat.le_refl _) _
  have BD : BlkV W w.heap.size 51 [.int .u8 kd, .bool true, .int .u8 at_] := by rw [hW]; exact BlkV.new _ _ _
  have hWs : W.heap.size = w.heap.size + 1 := by rw [hW]; simp
  have HT := Lib.hid (h.below hbW)
  have HGW0 := Lib.hid h.blk.lt
  have HGW := Lib.hid (show g < w.heap.size from HGW0.out)
  have HNE0 : Hid (∀ g, (Value.slice z.A0 z.n0 z.c0).ownBlock = some g → g < W.heap.size) := Lib.hid fun g hg => (HT.out.r0.lt g hg).2
  have HNE1 : Hid (∀ g, (Value.slice z.A1 z.n1 z.c1).ownBlock = some g → g < W.heap.size) := Lib.hid fun g hg => (HT.out.r1.lt g hg).2
  have d0 := cellF BD 0 rfl
  have d1 := cellF BD 1 rfl
  clear h
  go_enter Try.func15, Try.ntmps15
  go_upto_region 1 with (fail)
  rw [← hW]
  clear hW
  go_upto_region 12 with (fail)
  have cw : W.cell? ⟨g, 23, none⟩ = some (.slice z.A1 z.n1 z.c1) := HT.out.blk.cell rfl
  go_wp2_with fail
  exact bodyPost_ret (v := .tuple #[]) (by simp [results, Try.results15, go_sem]) rfl ⟨rfl, HT.out⟩
set_option maxHeartbeats 8000000 in
theorem do_twice0 (w0 w : World) (g : Nat) (z : Two) (h : TwoM w0 g z w) (kd at_ m : Int) (hk : 0 ≤ kd ∧ kd ≤ 255) (h5 : kd % 5 = 4) (a i : Nat) (ha : a ≤ 255) (hat : at_ = (a : Int)) (hi : i = a % z.n0) (hn0 : 0 < z.n0) (hn : z.n0 ≤ 100000) (t : Tcp.T) (ht : z.l0[i]? = some t) :
    Calls Try.prog 15 #[.pointer (some ⟨g, 0, none⟩), .agg #[.int .u8 kd, .bool false, .int .u8 at_], .int .i64 m] w fun e w' => e = .returned (.tuple #[]) ∧ ∃ z', TwoM w0 g z' w' ∧ z'.ct = Pb.twiceK false i z.ct := by
  obtain ⟨A, hA⟩ : ∃ A, z.A0 = A := ⟨_, rfl⟩
  obtain ⟨b, rfl⟩ : ∃ b, A = some ⟨b, 0, none⟩ := by
    rcases h.r0.2 with ⟨hv, _⟩ | ⟨b, cap, cur, hv, _⟩
    · injection hv with h1 h2
      omega
    · injection hv with h1
      exact ⟨b, hA.symm.trans h1⟩
  have hLn := segs_len h.r0
  have HCE := Lib.hid (show ∀ v : World, TwoM w0 g z v → ∀ j u, t.cells[j]? = some u → v.cell? ⟨b, i * 9 + j, none⟩ = some u from fun v hv j u hu => seg_cell hv.r0 hA ht hu)
  have HCT := Lib.hid ht
  have hmod : (wrap64 at_).tmod (z.n0 : Int) = (i : Int) := by rw [hat, hi, show wrap64 (a : Int) = (a : Int) by unfold wrap64; omega]; exact (Int.ofNat_tmod a z.n0).symm
  have hin : (i : Int) < (z.n0 : Int) := by rw [hi]; exact Int.ofNat_lt.2 (Nat.mod_lt _ hn0)
  have hinN : i < z.n0 := by omega
  have hat0 : 0 ≤ at_ := by omega
  have HII := Lib.hid hi
  clear hat hi ht
  obtain ⟨W, hW⟩ : ∃ W, W = w.alloc (.cells #[.int .u8 kd, .bool false, .int .u8 at_] 51) := ⟨_, rfl⟩
  have hbW : Below w.heap.size w W := by rw [hW]; exact (Below.refl _ _).alloc (Nat.le_refl _) _
  have BD : BlkV W w.heap.size 51 [.int .u8 kd, .bool false, .int .u8 at_] := by rw [hW]; exact BlkV.new _ _ _
  have hWs : W.heap.size = w.heap.size + 1 := by rw [hW]; simp
  have HT := Lib.hid (h.below hbW)
  have HGW0 := Lib.hid h.blk.lt
  have HGW := Lib.hid (show g < w.heap.size from HGW0.out)
  have HNE0 : Hid (∀ g, (Value.slice z.A0 z.n0 z.c0).ownBlock = some g → g < W.heap.size) := Lib.hid fun g hg => (HT.out.r0.lt g hg).2
  have HNE1 : Hid (∀ g, (Value.slice z.A1 z.n1 z.c1).ownBlock = some g → g < W.heap.size) := Lib.hid fun g hg => (HT.out.r1.lt g hg).2
  have d0 := cellF BD 0 rfl
  have d1 := cellF BD 1 rfl
  clear h
  go_enter Try.func15, Try.ntmps15
  go_upto_region 1 with (fail)
  rw [← hW]
  clear hW
  go_upto_region 12 with (fail)
  have cw : W.cell? ⟨g, 22, none⟩ = some (.slice (some ⟨b, 0, none⟩) z.n0 z.c0) := by rw [← hA]; exact HT.out.blk.cell rfl
  have d2 := cellF BD 2 rfl
  go_upto_region 13 with (fail)
  go_quiet (fail)
  go_upto_region 14 with (fail)
  obtain ⟨V, hV⟩ : ∃ V, V = W.drewN nq := ⟨_, rfl⟩
  have HTV : Hid (TwoM w0 g z V) := Lib.hid (by rw [hV]; exact HT.out.below (bel_n (Below.refl _ _) _))
  have BDV : BlkV V w.heap.size 51 [.int .u8 kd, .bool false, .int .u8 at_] := by rw [hV]; exact BD
  have HVS : Hid (V.heap.size = W.heap.size) := Lib.hid (by rw [hV]; rfl)
  have cv : V.cell? ⟨g, 22, none⟩ = some (.slice (some ⟨b, 0, none⟩) z.n0 z.c0) := by rw [hV]; exact cw
  rw [← hV]
  clear hV cw d0 d1 d2 BD HT
  have B11 : BlkV (V.alloc (.cells #[.int .i64 0, .int .i64 0, .int .u32 0, .int .u32 0, .int .i64 0, .int .i64 0, .int .i64 0, .slice none 0 0, .slice none 0 0] 37)) V.heap.size 37 [.int .i64 0, .int .i64 0, .int .u32 0, .int .u32 0, .int .i64 0, .int .i64 0, .int .i64 0, .slice none 0 0, .slice none 0 0] := BlkV.new V _ _
  have hbv : Below V.heap.size V (V.alloc (.cells #[.int .i64 0, .int .i64 0, .int .u32 0, .int .u32 0, .int .i64 0, .int .i64 0, .int .i64 0, .slice none 0 0, .slice none 0 0] 37)) := bel_a (Below.refl _ _) _
  go_upto_region 15 with (first | (refine wpList_load_mid rfl 37 _ (by with_reducible rfl) b (i * 9) (by rfl) [.int .i64 t.sp, .int .i64 t.dp, .int .u32 t.sq, .int .u32 t.ak, .int .i64 t.fl, .int .i64 t.wi, .int .i64 t.ur, .slice t.Ao t.no t.co, .slice t.Ab t.nb t.cb] _ (HCE.out _ HTV.out) Try.underlying37 rfl (by kernel_rfl) ?_) | (refine wpList_stB 37 _ _ (by with_reducible rfl) rfl (by rfl) [.int .i64 t.sp, .int .i64 t.dp, .int .u32 t.sq, .int .u32 t.ak, .int .i64 t.fl, .int .i64 t.wi, .int .i64 t.ur, .slice t.Ao t.no t.co, .slice t.Ab t.nb t.cb] (by rfl) B11 (by rfl) (tcp_size (by rfl)) (by rfl) ?_; intro wN BN hN))
  have HTN := Lib.hid (HTV.out.below (hN.bel (Nat.le_refl _) hbv))
  have DN := (BDV.below hbv).only hN (by have := HVS.out; omega)
  have HLE := Lib.hid (show W.heap.size ≤ V.heap.size from Nat.le_of_eq HVS.out.symm)
  have HSN : Hid (wN.heap.size = V.heap.size + 1) := Lib.hid (by rw [hN.size]; simp)
  have d0 := cellF DN 0 rfl
  clear B11 hbv BDV cv HTV hN
  have HAA := Lib.hid hA
  clear hA
  have HTz := HTN
  have HOT := Lib.hid (HTN.out.t0 t (List.mem_of_getElem? HCT.out))
  go_upto_region 16 with (fail)
  have KS : Hid (∀ w' : World, BlkV w' (V.heap.size) 37 [.int .i64 t.sp, .int .i64 t.dp, .int .u32 t.sq, .int .u32 t.ak, .int .i64 t.fl, .int .i64 t.wi, .int .i64 t.ur, .slice t.Ao t.no t.co, .slice t.Ab t.nb t.cb] → BlkV w' g 48 [.int .i64 z.P0.st, .int .i64 z.P0.port, .int .i64 z.P0.to, .int .u32 z.P0.fi, .int .u32 z.P0.un, .int .u32 z.P0.ne, .int .u32 z.P0.wa, .int .i64 z.P0.wi, .int .i64 z.P0.ot, .slice z.P0.d.A z.P0.d.n z.P0.d.c, .slice z.P0.g.A z.P0.g.n z.P0.g.c, .int .i64 z.P1.st, .int .i64 z.P1.port, .int .i64 z.P1.to, .int .u32 z.P1.fi, .int .u32 z.P1.un, .int .u32 z.P1.ne, .int .u32 z.P1.wa, .int .i64 z.P1.wi, .int .i64 z.P1.ot, .slice z.P1.d.A z.P1.d.n z.P1.d.c, .slice z.P1.g.A z.P1.g.n z.P1.g.c, .slice z.A0 z.n0 z.c0, .slice z.A1 z.n1 z.c1] → (w'.cell? ⟨V.heap.size, 0, none⟩ = some (.int .i64 t.sp) ∧ w'.cell? ⟨V.heap.size, 1, none⟩ = some (.int .i64 t.dp) ∧ w'.cell? ⟨V.heap.size, 2, none⟩ = some (.int .u32 t.sq) ∧ w'.cell? ⟨V.heap.size, 3, none⟩ = some (.int .u32 t.ak) ∧ w'.cell? ⟨V.heap.size, 4, none⟩ = some (.int .i64 t.fl) ∧ w'.cell? ⟨V.heap.size, 5, none⟩ = some (.int .i64 t.wi) ∧ w'.cell? ⟨V.heap.size, 6, none⟩ = some (.int .i64 t.ur) ∧ w'.cell? ⟨V.heap.size, 7, none⟩ = some (.slice t.Ao t.no t.co) ∧ w'.cell? ⟨V.heap.size, 8, none⟩ = some (.slice t.Ab t.nb t.cb) ∧ w'.cell? ⟨g, 22, none⟩ = some (.slice z.A0 z.n0 z.c0))) := Lib.hid fun w' h k => by
    obtain ⟨h0, h1, h2, h3, h4, h5, h6, h7, h8⟩ := cells9 h
    exact ⟨h0, h1, h2, h3, h4, h5, h6, h7, h8, k.cell rfl⟩
  have NE8 : Hid ((Value.slice z.A0 z.n0 z.c0).ownBlock ≠ some (V.heap.size)) := Lib.hid fun e => by have h1 := HNE0.out _ e; have h2 := HLE.out; omega
  refine wp_region_X (S := fun w' => (w'.cell? ⟨V.heap.size, 0, none⟩ = some (.int .i64 t.sp) ∧ w'.cell? ⟨V.heap.size, 1, none⟩ = some (.int .i64 t.dp) ∧ w'.cell? ⟨V.heap.size, 2, none⟩ = some (.int .u32 t.sq) ∧ w'.cell? ⟨V.heap.size, 3, none⟩ = some (.int .u32 t.ak) ∧ w'.cell? ⟨V.heap.size, 4, none⟩ = some (.int .i64 t.fl) ∧ w'.cell? ⟨V.heap.size, 5, none⟩ = some (.int .i64 t.wi) ∧ w'.cell? ⟨V.heap.size, 6, none⟩ = some (.int .i64 t.ur) ∧ w'.cell? ⟨V.heap.size, 7, none⟩ = some (.slice t.Ao t.no t.co) ∧ w'.cell? ⟨V.heap.size, 8, none⟩ = some (.slice t.Ab t.nb t.cb) ∧ w'.cell? ⟨g, 22, none⟩ = some (.slice z.A0 z.n0 z.c0))) 14 (by kernel_rfl) (KS.out _ (show BlkV wN.drew _ _ _ from BN) (show BlkV wN.drew g 48 _ from BlkV.fit HTz.out.blk rfl)) (fun hHeld => ?_)
  refine wpAnyX_takeD (i := 0) (some 101) (v := ?_) rfl rfl (by kernel_rfl) (by kernel_rfl) (by kernel_rfl) (by kernel_rfl) (fun _ _ _ h => h) (Or.inl ⟨by rfl, ?_⟩) (by assumption) ?_
  rotate_left
  · (intro w hSw; (try dsimp only at hSw); go_simp; try with_reducible rfl)
  try simp only [Act.put, List.setIfInBounds_toArray, List.set_cons_zero, List.set_cons_succ]
  refine wpAnyX_takeD (i := 1) (some 102) (v := ?_) rfl rfl (by kernel_rfl) (by kernel_rfl) (by kernel_rfl) (by kernel_rfl) (fun _ _ _ h => h) (Or.inl ⟨by rfl, ?_⟩) (by assumption) ?_
  rotate_left
  · (intro w hSw; (try dsimp only at hSw); go_simp; try with_reducible rfl)
  try simp only [Act.put, List.setIfInBounds_toArray, List.set_cons_zero, List.set_cons_succ]
  refine wpAnyX_takeD (i := 2) (some 103) (v := ?_) rfl rfl (by kernel_rfl) (by kernel_rfl) (by kernel_rfl) (by kernel_rfl) (fun _ _ _ h => h) (Or.inl ⟨by rfl, ?_⟩) (by assumption) ?_
  rotate_left
  · (intro w hSw; (try dsimp only at hSw); go_simp; try with_reducible rfl)
  try simp only [Act.put, List.setIfInBounds_toArray, List.set_cons_zero, List.set_cons_succ]
  refine wpAnyX_takeD (i := 3) (some 104) (v := ?_) rfl rfl (by kernel_rfl) (by kernel_rfl) (by kernel_rfl) (by kernel_rfl) (fun _ _ _ h => h) (Or.inl ⟨by rfl, ?_⟩) (by assumption) ?_
  rotate_left
  · (intro w hSw; (try dsimp only at hSw); go_simp; try with_reducible rfl)
  try simp only [Act.put, List.setIfInBounds_toArray, List.set_cons_zero, List.set_cons_succ]
  refine wpAnyX_takeD (i := 4) (some 105) (v := ?_) rfl rfl (by kernel_rfl) (by kernel_rfl) (by kernel_rfl) (by kernel_rfl) (fun _ _ _ h => h) (Or.inl ⟨by rfl, ?_⟩) (by assumption) ?_
  rotate_left
  · (intro w hSw; (try dsimp only at hSw); go_simp; try with_reducible rfl)
  try simp only [Act.put, List.setIfInBounds_toArray, List.set_cons_zero, List.set_cons_succ]
  refine wpAnyX_takeD (i := 5) (some 106) (v := ?_) rfl rfl (by kernel_rfl) (by kernel_rfl) (by kernel_rfl) (by kernel_rfl) (fun _ _ _ h => h) (Or.inl ⟨by rfl, ?_⟩) (by assumption) ?_
  rotate_left
  · (intro w hSw; (try dsimp only at hSw); go_simp; try with_reducible rfl)
  try simp only [Act.put, List.setIfInBounds_toArray, List.set_cons_zero, List.set_cons_succ]
  refine wpAnyX_takeD (i := 6) (some 107) (v := ?_) rfl rfl (by kernel_rfl) (by kernel_rfl) (by kernel_rfl) (by kernel_rfl) (fun _ _ _ h => h) (Or.inl ⟨by rfl, ?_⟩) (by assumption) ?_
  rotate_left
  · (intro w hSw; (try dsimp only at hSw); go_simp; try with_reducible rfl)
  try simp only [Act.put, List.setIfInBounds_toArray, List.set_cons_zero, List.set_cons_succ]
  refine wpAnyX_takeD (i := 7) (some 108) (v := ?_) rfl rfl (by kernel_rfl) (by kernel_rfl) (by kernel_rfl) (by kernel_rfl) (fun _ _ _ h => h) (Or.inl ⟨by rfl, ?_⟩) (by assumption) ?_
  rotate_left
  · (intro w hSw; (try dsimp only at hSw); go_simp; try with_reducible rfl)
  try simp only [Act.put, List.setIfInBounds_toArray, List.set_cons_zero, List.set_cons_succ]
  refine wpAnyX_takeD (i := 8) (some 109) (v := ?_) rfl rfl (by kernel_rfl) (by kernel_rfl) (by kernel_rfl) (by kernel_rfl) (fun _ _ _ h => h) (Or.inl ⟨by rfl, ?_⟩) (by assumption) ?_
  rotate_left
  · (intro w hSw; (try dsimp only at hSw); go_simp; try with_reducible rfl)
  try simp only [Act.put, List.setIfInBounds_toArray, List.set_cons_zero, List.set_cons_succ]
  refine wpAnyX_takeD (i := 11) (some 112) (v := ?_) rfl rfl (by kernel_rfl) (by kernel_rfl) (by kernel_rfl) (by kernel_rfl) (fun _ _ _ h => h) (Or.inl ⟨by rfl, ?_⟩) (by assumption) ?_
  rotate_left
  · (intro w hSw; (try dsimp only at hSw); go_simp; try with_reducible rfl)
  try simp only [Act.put, List.setIfInBounds_toArray, List.set_cons_zero, List.set_cons_succ]
  refine wpAnyX_takeD (i := 12) (some 113) (v := ?_) rfl rfl (by kernel_rfl) (by kernel_rfl) (by kernel_rfl) (by kernel_rfl) (fun _ _ _ h => h) (Or.inl ⟨by rfl, ?_⟩) (by assumption) ?_
  rotate_left
  · (intro w hSw; (try dsimp only at hSw); go_simp; try with_reducible rfl)
  try simp only [Act.put, List.setIfInBounds_toArray, List.set_cons_zero, List.set_cons_succ]
  refine wpAnyX_ready (rs := [9]) (by kernel_rfl) (by simp) ?_
  refine AllReadyX.cons (o := _) rfl (fun K hK => ?_) AllReadyX.nil
  go_simp
  first | refine ct_gen (fun y1 hy1 => ?_) | refine ct_gend (fun y1 hy1 => ?_)
  have hby : Below wN.heap.size wN y1 := by rw [hy1]; first | exact bel_a (bel_d (Below.refl _ _)) _ | exact bel_d (bel_a (Below.refl _ _) _)
  have HRD : Hid (Rd y1 9 (some ⟨wN.heap.size, 0, none⟩) 1 t.cells) := Lib.hid (by rw [hy1]; first | exact rd_seg wN.drew t | exact (rd_seg wN t).drew)
  have HTy := Lib.hid (HTz.out.below hby)
  have SBy := BlkV.below BN hby
  have hsy := hby.size
  clear hy1
  refine hK.out _ _ (KS.out _ SBy (BlkV.fit HTy.out.blk rfl)) (fun hHeld => ?_)
  clear hK K
  try simp only [Act.put, List.setIfInBounds_toArray, List.set_cons_zero, List.set_cons_succ]
  refine wpAnyX_ready (rs := [10]) (by kernel_rfl) (by simp) ?_
  refine AllReadyX.cons (o := _) rfl (fun K hK => ?_) AllReadyX.nil
  refine step_app9 (by rfl) (.tmp 108) (.tmp 110) 45 (by rfl) w0 HTy.out.bel 37 _ 9 96 Try.underlying45 info_tcp rfl (by decide) (.slice z.A0 z.n0 z.c0) z.n0 (segCells z.l0) (by rfl) HTy.out.r0 (some ⟨wN.heap.size, 0, none⟩) 1 1 t.cells (by rfl) HRD.out (by rw [← segCells_one]; exact one_segs _) (by unfold maxLen; omega) (by omega) ?_
  intro A6 k6 y2 hown hby2 hgr hat
  have SB2 := SBy.grown hgr NE8.out
  have BG2 := HTy.out.blk.grown hgr (own_ne (m := 0) HTy.out.r0 HTy.out.blk (by decide))
  have HOWN := Lib.hid hown
  have HGR := Lib.hid hgr
  have HBY2 := Lib.hid hby2
  have HAT := Lib.hid hat
  clear hown hgr hby2 hat
  refine hK.out _ _ (KS.out _ SB2 (BlkV.fit BG2 rfl)) (fun hHeld => ?_)
  clear hK K
  try simp only [Act.put, List.setIfInBounds_toArray, List.set_cons_zero, List.set_cons_succ]
  refine wpAnyX_takeD (i := 13) (some 114) (v := ?_) rfl rfl (by kernel_rfl) (by kernel_rfl) (by kernel_rfl) (by kernel_rfl) (fun _ _ _ h => h) (Or.inl ⟨by rfl, ?_⟩) (by assumption) ?_
  rotate_left
  · (intro w hSw; (try dsimp only at hSw); go_simp; try with_reducible rfl)
  try simp only [Act.put, List.setIfInBounds_toArray, List.set_cons_zero, List.set_cons_succ]
  refine wpAnyX_ready (rs := [14]) (by kernel_rfl) (by simp) ?_
  refine AllReadyX.last (o := _) rfl (by kernel_rfl) (fun K hK => ?_)
  rw [if_pos (by rfl)]
  refine wp_stF 45 _ _ 22 (.slice A6 (z.n0 + 1) k6) rfl (by rfl) (by rfl) (by rfl) BG2 (by simp) (by kernel_rfl) rfl ?_
  intro w6 B6 h6
  refine hK.out _ _ ?_
  clear hK K
  try simp only [Act.put, List.setIfInBounds_toArray, List.set_cons_zero, List.set_cons_succ]
  refine wpAnyX_done (by kernel_rfl) ?_ _
  have HT6 := Lib.hid (HTy.out.way0 HGR.out HBY2.out (l := z.l0 ++ [t]) (by rw [segCells_app, segCells_one]; exact HOWN.out) (fun x hx => by rcases List.mem_append.1 hx with hx | hx; exact HTy.out.t0 x hx; rw [List.mem_singleton.1 hx]; exact HOT.out.below hby) (HAT.out.imp id (fun e k h => by rw [e] at h; injection h with h; omega)) h6 (BlkV.fit B6 rfl))
  clear HTy HTz SBy SB2 BG2 HOWN HGR HBY2 HAT KS NE8 HRD B6 h6 hby hHeld
  go_wp2_with fail
  have e0 := HCT.out
  exact bodyPost_ret (v := .tuple #[]) (by simp [results, Try.results15, go_sem]) rfl ⟨rfl, _, HT6.out, by unfold Two.ct Pb.twiceK; simp [e0]⟩
set_option maxHeartbeats 8000000 in
theorem do_twice1 (w0 w : World) (g : Nat) (z : Two) (h : TwoM w0 g z w) (kd at_ m : Int) (hk : 0 ≤ kd ∧ kd ≤ 255) (h5 : kd % 5 = 4) (a i : Nat) (ha : a ≤ 255) (hat : at_ = (a : Int)) (hi : i = a % z.n1) (hn0 : 0 < z.n1) (hn : z.n1 ≤ 100000) (t : Tcp.T) (ht : z.l1[i]? = some t) :
    Calls Try.prog 15 #[.pointer (some ⟨g, 0, none⟩), .agg #[.int .u8 kd, .bool true, .int .u8 at_], .int .i64 m] w fun e w' => e = .returned (.tuple #[]) ∧ ∃ z', TwoM w0 g z' w' ∧ z'.ct = Pb.twiceK true i z.ct := by
  obtain ⟨A, hA⟩ : ∃ A, z.A1 = A := ⟨_, rfl⟩
  obtain ⟨b, rfl⟩ : ∃ b, A = some ⟨b, 0, none⟩ := by
    rcases h.r1.2 with ⟨hv, _⟩ | ⟨b, cap, cur, hv, _⟩
    · injection hv with h1 h2
      omega
    · injection hv with h1
      exact ⟨b, hA.symm.trans h1⟩
  have hLn := segs_len h.r1
  have HCE := Lib.hid (show ∀ v : World, TwoM w0 g z v → ∀ j u, t.cells[j]? = some u → v.cell? ⟨b, i * 9 + j, none⟩ = some u from fun v hv j u hu => seg_cell hv.r1 hA ht hu)
  have HCT := Lib.hid ht
  have hmod : (wrap64 at_).tmod (z.n1 : Int) = (i : Int) := by rw [hat, hi, show wrap64 (a : Int) = (a : Int) by unfold wrap64; omega]; exact (Int.ofNat_tmod a z.n1).symm
  have hin : (i : Int) < (z.n1 : Int) := by rw [hi]; exact Int.ofNat_lt.2 (Nat.mod_lt _ hn0)
  have hinN : i < z.n1 := by omega
  have hat0 : 0 ≤ at_ := by omega
  have HII := Lib.hid hi
  clear hat hi ht
  obtain ⟨W, hW⟩ : ∃ W, W = w.alloc (.cells #[.int .u8 kd, .bool true, .int .u8 at_] 51) := ⟨_, rfl⟩
  have hbW : Below w.heap.size w W := by rw [hW]; exact (Below.refl _ _).alloc (Nat.le_refl _) _
  have BD : BlkV W w.heap.size 51 [.int .u8 kd, .bool true, .int .u8 at_] := by rw [hW]; exact BlkV.new _ _ _
  have hWs : W.heap.size = w.heap.size + 1 := by rw [hW]; simp
  have HT := Lib.hid (h.below hbW)
  have HGW0 := Lib.hid h.blk.lt
  have HGW := Lib.hid (show g < w.heap.size from HGW0.out)
  have HNE0 : Hid (∀ g, (Value.slice z.A0 z.n0 z.c0).ownBlock = some g → g < W.heap.size) := Lib.hid fun g hg => (HT.out.r0.lt g hg).2
  have HNE1 : Hid (∀ g, (Value.slice z.A1 z.n1 z.c1).ownBlock = some g → g < W.heap.size) := Lib.hid fun g hg => (HT.out.r1.lt g hg).2
  have d0 := cellF BD 0 rfl
  have d1 := cellF BD 1 rfl
  clear h
  go_enter Try.func15, Try.ntmps15
  go_upto_region 1 with (fail)
  rw [← hW]
  clear hW
  go_upto_region 12 with (fail)
  have cw : W.cell? ⟨g, 23, none⟩ = some (.slice (some ⟨b, 0, none⟩) z.n1 z.c1) := by rw [← hA]; exact HT.out.blk.cell rfl
  have d2 := cellF BD 2 rfl
  go_upto_region 13 with (fail)
  go_quiet (fail)
  go_upto_region 14 with (fail)
  obtain ⟨V, hV⟩ : ∃ V, V = W.drewN nq := ⟨_, rfl⟩
  have HTV : Hid (TwoM w0 g z V) := Lib.hid (by rw [hV]; exact HT.out.below (bel_n (Below.refl _ _) _))
  have BDV : BlkV V w.heap.size 51 [.int .u8 kd, .bool true, .int .u8 at_] := by rw [hV]; exact BD
  have HVS : Hid (V.heap.size = W.heap.size) := Lib.hid (by rw [hV]; rfl)
  have cv : V.cell? ⟨g, 23, none⟩ = some (.slice (some ⟨b, 0, none⟩) z.n1 z.c1) := by rw [hV]; exact cw
  rw [← hV]
  clear hV cw d0 d1 d2 BD HT
  have B11 : BlkV (V.alloc (.cells #[.int .i64 0, .int .i64 0, .int .u32 0, .int .u32 0, .int .i64 0, .int .i64 0, .int .i64 0, .slice none 0 0, .slice none 0 0] 37)) V.heap.size 37 [.int .i64 0, .int .i64 0, .int .u32 0, .int .u32 0, .int .i64 0, .int .i64 0, .int .i64 0, .slice none 0 0, .slice none 0 0] := BlkV.new V _ _
  have hbv : Below V.heap.size V (V.alloc (.cells #[.int .i64 0, .int .i64 0, .int .u32 0, .int .u32 0, .int .i64 0, .int .i64 0, .int .i64 0, .slice none 0 0, .slice none 0 0] 37)) := bel_a (Below.refl _ _) _
  go_upto_region 15 with (first | (refine wpList_load_mid rfl 37 _ (by with_reducible rfl) b (i * 9) (by rfl) [.int .i64 t.sp, .int .i64 t.dp, .int .u32 t.sq, .int .u32 t.ak, .int .i64 t.fl, .int .i64 t.wi, .int .i64 t.ur, .slice t.Ao t.no t.co, .slice t.Ab t.nb t.cb] _ (HCE.out _ HTV.out) Try.underlying37 rfl (by kernel_rfl) ?_) | (refine wpList_stB 37 _ _ (by with_reducible rfl) rfl (by rfl) [.int .i64 t.sp, .int .i64 t.dp, .int .u32 t.sq, .int .u32 t.ak, .int .i64 t.fl, .int .i64 t.wi, .int .i64 t.ur, .slice t.Ao t.no t.co, .slice t.Ab t.nb t.cb] (by rfl) B11 (by rfl) (tcp_size (by rfl)) (by rfl) ?_; intro wN BN hN))
  have HTN := Lib.hid (HTV.out.below (hN.bel (Nat.le_refl _) hbv))
  have DN := (BDV.below hbv).only hN (by have := HVS.out; omega)
  have HLE := Lib.hid (show W.heap.size ≤ V.heap.size from Nat.le_of_eq HVS.out.symm)
  have HSN : Hid (wN.heap.size = V.heap.size + 1) := Lib.hid (by rw [hN.size]; simp)
  have d0 := cellF DN 0 rfl
  clear B11 hbv BDV cv HTV hN
  have HAA := Lib.hid hA
  clear hA
  have HTz := HTN
  have HOT := Lib.hid (HTN.out.t1 t (List.mem_of_getElem? HCT.out))
  go_upto_region 16 with (fail)
  have KS : Hid (∀ w' : World, BlkV w' (V.heap.size) 37 [.int .i64 t.sp, .int .i64 t.dp, .int .u32 t.sq, .int .u32 t.ak, .int .i64 t.fl, .int .i64 t.wi, .int .i64 t.ur, .slice t.Ao t.no t.co, .slice t.Ab t.nb t.cb] → BlkV w' g 48 [.int .i64 z.P0.st, .int .i64 z.P0.port, .int .i64 z.P0.to, .int .u32 z.P0.fi, .int .u32 z.P0.un, .int .u32 z.P0.ne, .int .u32 z.P0.wa, .int .i64 z.P0.wi, .int .i64 z.P0.ot, .slice z.P0.d.A z.P0.d.n z.P0.d.c, .slice z.P0.g.A z.P0.g.n z.P0.g.c, .int .i64 z.P1.st, .int .i64 z.P1.port, .int .i64 z.P1.to, .int .u32 z.P1.fi, .int .u32 z.P1.un, .int .u32 z.P1.ne, .int .u32 z.P1.wa, .int .i64 z.P1.wi, .int .i64 z.P1.ot, .slice z.P1.d.A z.P1.d.n z.P1.d.c, .slice z.P1.g.A z.P1.g.n z.P1.g.c, .slice z.A0 z.n0 z.c0, .slice z.A1 z.n1 z.c1] → (w'.cell? ⟨V.heap.size, 0, none⟩ = some (.int .i64 t.sp) ∧ w'.cell? ⟨V.heap.size, 1, none⟩ = some (.int .i64 t.dp) ∧ w'.cell? ⟨V.heap.size, 2, none⟩ = some (.int .u32 t.sq) ∧ w'.cell? ⟨V.heap.size, 3, none⟩ = some (.int .u32 t.ak) ∧ w'.cell? ⟨V.heap.size, 4, none⟩ = some (.int .i64 t.fl) ∧ w'.cell? ⟨V.heap.size, 5, none⟩ = some (.int .i64 t.wi) ∧ w'.cell? ⟨V.heap.size, 6, none⟩ = some (.int .i64 t.ur) ∧ w'.cell? ⟨V.heap.size, 7, none⟩ = some (.slice t.Ao t.no t.co) ∧ w'.cell? ⟨V.heap.size, 8, none⟩ = some (.slice t.Ab t.nb t.cb) ∧ w'.cell? ⟨g, 23, none⟩ = some (.slice z.A1 z.n1 z.c1))) := Lib.hid fun w' h k => by
    obtain ⟨h0, h1, h2, h3, h4, h5, h6, h7, h8⟩ := cells9 h
    exact ⟨h0, h1, h2, h3, h4, h5, h6, h7, h8, k.cell rfl⟩
  have NE8 : Hid ((Value.slice z.A1 z.n1 z.c1).ownBlock ≠ some (V.heap.size)) := Lib.hid fun e => by have h1 := HNE1.out _ e; have h2 := HLE.out; omega
  refine wp_region_X (S := fun w' => (w'.cell? ⟨V.heap.size, 0, none⟩ = some (.int .i64 t.sp) ∧ w'.cell? ⟨V.heap.size, 1, none⟩ = some (.int .i64 t.dp) ∧ w'.cell? ⟨V.heap.size, 2, none⟩ = some (.int .u32 t.sq) ∧ w'.cell? ⟨V.heap.size, 3, none⟩ = some (.int .u32 t.ak) ∧ w'.cell? ⟨V.heap.size, 4, none⟩ = some (.int .i64 t.fl) ∧ w'.cell? ⟨V.heap.size, 5, none⟩ = some (.int .i64 t.wi) ∧ w'.cell? ⟨V.heap.size, 6, none⟩ = some (.int .i64 t.ur) ∧ w'.cell? ⟨V.heap.size, 7, none⟩ = some (.slice t.Ao t.no t.co) ∧ w'.cell? ⟨V.heap.size, 8, none⟩ = some (.slice t.Ab t.nb t.cb) ∧ w'.cell? ⟨g, 23, none⟩ = some (.slice z.A1 z.n1 z.c1))) 14 (by kernel_rfl) (KS.out _ (show BlkV wN.drew _ _ _ from BN) (show BlkV wN.drew g 48 _ from BlkV.fit HTz.out.blk rfl)) (fun hHeld => ?_)
  refine wpAnyX_takeD (i := 0) (some 101) (v := ?_) rfl rfl (by kernel_rfl) (by kernel_rfl) (by kernel_rfl) (by kernel_rfl) (fun _ _ _ h => h) (Or.inl ⟨by rfl, ?_⟩) (by assumption) ?_
  rotate_left
  · (intro w hSw; (try dsimp only at hSw); go_simp; try with_reducible rfl)
  try simp only [Act.put, List.setIfInBounds_toArray, List.set_cons_zero, List.set_cons_succ]
  refine wpAnyX_takeD (i := 1) (some 102) (v := ?_) rfl rfl (by kernel_rfl) (by kernel_rfl) (by kernel_rfl) (by kernel_rfl) (fun _ _ _ h => h) (Or.inl ⟨by rfl, ?_⟩) (by assumption) ?_
  rotate_left
  · (intro w hSw; (try dsimp only at hSw); go_simp; try with_reducible rfl)
  try simp only [Act.put, List.setIfInBounds_toArray, List.set_cons_zero, List.set_cons_succ]
  refine wpAnyX_takeD (i := 2) (some 103) (v := ?_) rfl rfl (by kernel_rfl) (by kernel_rfl) (by kernel_rfl) (by kernel_rfl) (fun _ _ _ h => h) (Or.inl ⟨by rfl, ?_⟩) (by assumption) ?_
  rotate_left
  · (intro w hSw; (try dsimp only at hSw); go_simp; try with_reducible rfl)
  try simp only [Act.put, List.setIfInBounds_toArray, List.set_cons_zero, List.set_cons_succ]
  refine wpAnyX_takeD (i := 3) (some 104) (v := ?_) rfl rfl (by kernel_rfl) (by kernel_rfl) (by kernel_rfl) (by kernel_rfl) (fun _ _ _ h => h) (Or.inl ⟨by rfl, ?_⟩) (by assumption) ?_
  rotate_left
  · (intro w hSw; (try dsimp only at hSw); go_simp; try with_reducible rfl)
  try simp only [Act.put, List.setIfInBounds_toArray, List.set_cons_zero, List.set_cons_succ]
  refine wpAnyX_takeD (i := 4) (some 105) (v := ?_) rfl rfl (by kernel_rfl) (by kernel_rfl) (by kernel_rfl) (by kernel_rfl) (fun _ _ _ h => h) (Or.inl ⟨by rfl, ?_⟩) (by assumption) ?_
  rotate_left
  · (intro w hSw; (try dsimp only at hSw); go_simp; try with_reducible rfl)
  try simp only [Act.put, List.setIfInBounds_toArray, List.set_cons_zero, List.set_cons_succ]
  refine wpAnyX_takeD (i := 5) (some 106) (v := ?_) rfl rfl (by kernel_rfl) (by kernel_rfl) (by kernel_rfl) (by kernel_rfl) (fun _ _ _ h => h) (Or.inl ⟨by rfl, ?_⟩) (by assumption) ?_
  rotate_left
  · (intro w hSw; (try dsimp only at hSw); go_simp; try with_reducible rfl)
  try simp only [Act.put, List.setIfInBounds_toArray, List.set_cons_zero, List.set_cons_succ]
  refine wpAnyX_takeD (i := 6) (some 107) (v := ?_) rfl rfl (by kernel_rfl) (by kernel_rfl) (by kernel_rfl) (by kernel_rfl) (fun _ _ _ h => h) (Or.inl ⟨by rfl, ?_⟩) (by assumption) ?_
  rotate_left
  · (intro w hSw; (try dsimp only at hSw); go_simp; try with_reducible rfl)
  try simp only [Act.put, List.setIfInBounds_toArray, List.set_cons_zero, List.set_cons_succ]
  refine wpAnyX_takeD (i := 7) (some 108) (v := ?_) rfl rfl (by kernel_rfl) (by kernel_rfl) (by kernel_rfl) (by kernel_rfl) (fun _ _ _ h => h) (Or.inl ⟨by rfl, ?_⟩) (by assumption) ?_
  rotate_left
  · (intro w hSw; (try dsimp only at hSw); go_simp; try with_reducible rfl)
  try simp only [Act.put, List.setIfInBounds_toArray, List.set_cons_zero, List.set_cons_succ]
  refine wpAnyX_takeD (i := 8) (some 109) (v := ?_) rfl rfl (by kernel_rfl) (by kernel_rfl) (by kernel_rfl) (by kernel_rfl) (fun _ _ _ h => h) (Or.inl ⟨by rfl, ?_⟩) (by assumption) ?_
  rotate_left
  · (intro w hSw; (try dsimp only at hSw); go_simp; try with_reducible rfl)
  try simp only [Act.put, List.setIfInBounds_toArray, List.set_cons_zero, List.set_cons_succ]
  refine wpAnyX_takeD (i := 11) (some 112) (v := ?_) rfl rfl (by kernel_rfl) (by kernel_rfl) (by kernel_rfl) (by kernel_rfl) (fun _ _ _ h => h) (Or.inl ⟨by rfl, ?_⟩) (by assumption) ?_
  rotate_left
  · (intro w hSw; (try dsimp only at hSw); go_simp; try with_reducible rfl)
  try simp only [Act.put, List.setIfInBounds_toArray, List.set_cons_zero, List.set_cons_succ]
  refine wpAnyX_takeD (i := 12) (some 113) (v := ?_) rfl rfl (by kernel_rfl) (by kernel_rfl) (by kernel_rfl) (by kernel_rfl) (fun _ _ _ h => h) (Or.inl ⟨by rfl, ?_⟩) (by assumption) ?_
  rotate_left
  · (intro w hSw; (try dsimp only at hSw); go_simp; try with_reducible rfl)
  try simp only [Act.put, List.setIfInBounds_toArray, List.set_cons_zero, List.set_cons_succ]
  refine wpAnyX_ready (rs := [9]) (by kernel_rfl) (by simp) ?_
  refine AllReadyX.cons (o := _) rfl (fun K hK => ?_) AllReadyX.nil
  go_simp
  first | refine ct_gen (fun y1 hy1 => ?_) | refine ct_gend (fun y1 hy1 => ?_)
  have hby : Below wN.heap.size wN y1 := by rw [hy1]; first | exact bel_a (bel_d (Below.refl _ _)) _ | exact bel_d (bel_a (Below.refl _ _) _)
  have HRD : Hid (Rd y1 9 (some ⟨wN.heap.size, 0, none⟩) 1 t.cells) := Lib.hid (by rw [hy1]; first | exact rd_seg wN.drew t | exact (rd_seg wN t).drew)
  have HTy := Lib.hid (HTz.out.below hby)
  have SBy := BlkV.below BN hby
  have hsy := hby.size
  clear hy1
  refine hK.out _ _ (KS.out _ SBy (BlkV.fit HTy.out.blk rfl)) (fun hHeld => ?_)
  clear hK K
  try simp only [Act.put, List.setIfInBounds_toArray, List.set_cons_zero, List.set_cons_succ]
  refine wpAnyX_ready (rs := [10]) (by kernel_rfl) (by simp) ?_
  refine AllReadyX.cons (o := _) rfl (fun K hK => ?_) AllReadyX.nil
  refine step_app9 (by rfl) (.tmp 108) (.tmp 110) 45 (by rfl) w0 HTy.out.bel 37 _ 9 96 Try.underlying45 info_tcp rfl (by decide) (.slice z.A1 z.n1 z.c1) z.n1 (segCells z.l1) (by rfl) HTy.out.r1 (some ⟨wN.heap.size, 0, none⟩) 1 1 t.cells (by rfl) HRD.out (by rw [← segCells_one]; exact one_segs _) (by unfold maxLen; omega) (by omega) ?_
  intro A6 k6 y2 hown hby2 hgr hat
  have SB2 := SBy.grown hgr NE8.out
  have BG2 := HTy.out.blk.grown hgr (own_ne (m := 0) HTy.out.r1 HTy.out.blk (by decide))
  have HOWN := Lib.hid hown
  have HGR := Lib.hid hgr
  have HBY2 := Lib.hid hby2
  have HAT := Lib.hid hat
  clear hown hgr hby2 hat
  refine hK.out _ _ (KS.out _ SB2 (BlkV.fit BG2 rfl)) (fun hHeld => ?_)
  clear hK K
  try simp only [Act.put, List.setIfInBounds_toArray, List.set_cons_zero, List.set_cons_succ]
  refine wpAnyX_takeD (i := 13) (some 114) (v := ?_) rfl rfl (by kernel_rfl) (by kernel_rfl) (by kernel_rfl) (by kernel_rfl) (fun _ _ _ h => h) (Or.inl ⟨by rfl, ?_⟩) (by assumption) ?_
  rotate_left
  · (intro w hSw; (try dsimp only at hSw); go_simp; try with_reducible rfl)
  try simp only [Act.put, List.setIfInBounds_toArray, List.set_cons_zero, List.set_cons_succ]
  refine wpAnyX_ready (rs := [14]) (by kernel_rfl) (by simp) ?_
  refine AllReadyX.last (o := _) rfl (by kernel_rfl) (fun K hK => ?_)
  rw [if_pos (by rfl)]
  refine wp_stF 45 _ _ 23 (.slice A6 (z.n1 + 1) k6) rfl (by rfl) (by rfl) (by rfl) BG2 (by simp) (by kernel_rfl) rfl ?_
  intro w6 B6 h6
  refine hK.out _ _ ?_
  clear hK K
  try simp only [Act.put, List.setIfInBounds_toArray, List.set_cons_zero, List.set_cons_succ]
  refine wpAnyX_done (by kernel_rfl) ?_ _
  have HT6 := Lib.hid (HTy.out.way1 HGR.out HBY2.out (l := z.l1 ++ [t]) (by rw [segCells_app, segCells_one]; exact HOWN.out) (fun x hx => by rcases List.mem_append.1 hx with hx | hx; exact HTy.out.t1 x hx; rw [List.mem_singleton.1 hx]; exact HOT.out.below hby) (HAT.out.imp id (fun e k h => by rw [e] at h; injection h with h; omega)) h6 (BlkV.fit B6 rfl))
  clear HTy HTz SBy SB2 BG2 HOWN HGR HBY2 HAT KS NE8 HRD B6 h6 hby hHeld
  go_wp2_with fail
  have e0 := HCT.out
  exact bodyPost_ret (v := .tuple #[]) (by simp [results, Try.results15, go_sem]) rfl ⟨rfl, _, HT6.out, by unfold Two.ct Pb.twiceK; simp [e0]⟩
end Go.Proofs.Ytihhcalgjkkalaa
