/- The walk of what happens between two: a segment is lost. (Printed by tools/gen_pbdo.py.) -/
import Derived.Test.YtihhcalgjkkalaaPbMem
import Derived.Test.YtihhcalgjkkalaaOrders
namespace Go.Proofs.Ytihhcalgjkkalaa
open Go.RowKit
set_option linter.unusedVariables false
set_option linter.unusedSimpArgs false
set_option maxRecDepth 8000
set_option maxHeartbeats 8000000 in
theorem do_lose0 (w0 w : World) (g : Nat) (z : Two) (h : TwoM w0 g z w) (kd at_ m : Int) (hk : 0 ≤ kd ∧ kd ≤ 255) (h5 : kd % 5 = 3) (a i : Nat) (ha : a ≤ 255) (hat : at_ = (a : Int)) (hi : i = a % z.n0) (hn0 : 0 < z.n0) (hn : z.n0 ≤ 100000) (t : Tcp.T) (ht : z.l0[i]? = some t) :
    Calls Try.prog 15 #[.pointer (some ⟨g, 0, none⟩), .agg #[.int .u8 kd, .bool false, .int .u8 at_], .int .i64 m] w fun e w' => e = .returned (.tuple #[]) ∧ ∃ z', TwoM w0 g z' w' ∧ z'.ct = Pb.loseK false i z.ct := by
  obtain ⟨A, hA⟩ : ∃ A, z.A0 = A := ⟨_, rfl⟩
  obtain ⟨b, rfl⟩ : ∃ b, A = some ⟨b, 0, none⟩ := by
    rcases h.r0.2 with ⟨hv, _⟩ | ⟨b, cap, cur, hv, _⟩
    · injection hv with h1 h2
      omega
    · injection hv with h1
      exact ⟨b, hA.symm.trans h1⟩
  have hLn := segs_len h.r0
  have HCE := Lib.hid (show ∀ v : World, TwoM w0 g z v → ∀ j u, t.cells[j]? = some u → v.cell? ⟨b, i * 9 + j, none⟩ = some u from fun v hv j u hu => seg_cell hv.r0 hA ht hu)
  have HCT := Lib.hid ht
  have hmod : (wrap64 at_).tmod (z.n0 : Int) = (i : Int) := by rw [hat, hi, show wrap64 (a : Int) = (a : Int) by unfold wrap64; omega]; exact (Int.ofNat_tmod a z.n0).symm
  have hin : (i : Int) < (z.n0 : Int) := by rw [hi]; exact Int.ofNat_lt.2 (Nat.mod_lt _ hn0)
  have hinN : i < z.n0 := by omega
  have hat0 : 0 ≤ at_ := by omega
  have HII := Lib.hid hi
  clear hat hi ht
  obtain ⟨W, hW⟩ : ∃ W, W = w.alloc (.cells #[.int .u8 kd, .bool false, .int .u8 at_] 51) := ⟨_, rfl⟩
  have hbW : Below w.heap.size w W := by rw [hW]; exact (Below.refl _ _).alloc (Nat.le_refl _) _
  have BD : BlkV W w.heap.size 51 [.int .u8 kd, .bool false, .int .u8 at_] := by rw [hW]; exact BlkV.new _ _ _
  have hWs : W.heap.size = w.heap.size + 1 := by rw [hW]; simp
  have HT := Lib.hid (h.below hbW)
  have HGW0 := Lib.hid h.blk.lt
  have HGW := Lib.hid (show g < w.heap.size from HGW0.out)
  have HNE0 : Hid (∀ g, (Value.slice z.A0 z.n0 z.c0).ownBlock = some g → g < W.heap.size) := Lib.hid fun g hg => (HT.out.r0.lt g hg).2
  have HNE1 : Hid (∀ g, (Value.slice z.A1 z.n1 z.c1).ownBlock = some g → g < W.heap.size) := Lib.hid fun g hg => (HT.out.r1.lt g hg).2
  have d0 := cellF BD 0 rfl
  have d1 := cellF BD 1 rfl
  clear h
  go_enter Try.func15, Try.ntmps15
  go_upto_region 1 with (fail)
  rw [← hW]
  clear hW
  go_upto_region 12 with (fail)
  have cw : W.cell? ⟨g, 22, none⟩ = some (.slice (some ⟨b, 0, none⟩) z.n0 z.c0) := by rw [← hA]; exact HT.out.blk.cell rfl
  have d2 := cellF BD 2 rfl
  go_upto_region 13 with (fail)
  go_quiet (fail)
  go_upto_region 14 with (fail)
  obtain ⟨V, hV⟩ : ∃ V, V = W.drewN nq := ⟨_, rfl⟩
  have HTV : Hid (TwoM w0 g z V) := Lib.hid (by rw [hV]; exact HT.out.below (bel_n (Below.refl _ _) _))
  have BDV : BlkV V w.heap.size 51 [.int .u8 kd, .bool false, .int .u8 at_] := by rw [hV]; exact BD
  have HVS : Hid (V.heap.size = W.heap.size) := Lib.hid (by rw [hV]; rfl)
  have cv : V.cell? ⟨g, 22, none⟩ = some (.slice (some ⟨b, 0, none⟩) z.n0 z.c0) := by rw [hV]; exact cw
  rw [← hV]
  clear hV cw d0 d1 d2 BD HT
  have B11 : BlkV (V.alloc (.cells #[.int .i64 0, .int .i64 0, .int .u32 0, .int .u32 0, .int .i64 0, .int .i64 0, .int .i64 0, .slice none 0 0, .slice none 0 0] 37)) V.heap.size 37 [.int .i64 0, .int .i64 0, .int .u32 0, .int .u32 0, .int .i64 0, .int .i64 0, .int .i64 0, .slice none 0 0, .slice none 0 0] := BlkV.new V _ _
  have hbv : Below V.heap.size V (V.alloc (.cells #[.int .i64 0, .int .i64 0, .int .u32 0, .int .u32 0, .int .i64 0, .int .i64 0, .int .i64 0, .slice none 0 0, .slice none 0 0] 37)) := bel_a (Below.refl _ _) _
  go_upto_region 15 with (first | (refine wpList_load_mid rfl 37 _ (by with_reducible rfl) b (i * 9) (by rfl) [.int .i64 t.sp, .int .i64 t.dp, .int .u32 t.sq, .int .u32 t.ak, .int .i64 t.fl, .int .i64 t.wi, .int .i64 t.ur, .slice t.Ao t.no t.co, .slice t.Ab t.nb t.cb] _ (HCE.out _ HTV.out) Try.underlying37 rfl (by kernel_rfl) ?_) | (refine wpList_stB 37 _ _ (by with_reducible rfl) rfl (by rfl) [.int .i64 t.sp, .int .i64 t.dp, .int .u32 t.sq, .int .u32 t.ak, .int .i64 t.fl, .int .i64 t.wi, .int .i64 t.ur, .slice t.Ao t.no t.co, .slice t.Ab t.nb t.cb] (by rfl) B11 (by rfl) (tcp_size (by rfl)) (by rfl) ?_; intro wN BN hN))
  have HTN := Lib.hid (HTV.out.below (hN.bel (Nat.le_refl _) hbv))
  have DN := (BDV.below hbv).only hN (by have := HVS.out; omega)
  have HLE := Lib.hid (show W.heap.size ≤ V.heap.size from Nat.le_of_eq HVS.out.symm)
  have HSN : Hid (wN.heap.size = V.heap.size + 1) := Lib.hid (by rw [hN.size]; simp)
  have d0 := cellF DN 0 rfl
  clear B11 hbv BDV cv HTV hN
  obtain ⟨A2, hA2⟩ : ∃ A2, A2 = (if z.c0 = i + 1 then some ⟨b, 0, none⟩ else some ⟨b, (i + 1) * 9, none⟩ : Option Addr) := ⟨_, rfl⟩
  have HROW := Lib.hid (hA ▸ HTN.out.r0 : wN.ownsRow w0.heap.size 37 9 (.slice (some ⟨b, 0, none⟩) z.n0 z.c0) z.n0 (segCells z.l0))
  have hcap := own_cap HROW.out
  have HR1 := Lib.hid (rd9_take (i := i) (Rd.of_own HROW.out) (by omega))
  have HR2 := Lib.hid (rd9_drop (i := i) (Rd.of_own HROW.out) hinN hcap)
  rw [← hA2] at HR2
  have HA2 := Lib.hid hA2
  have hw1 : IntKind.i64.wrap ((i : Int) + 1) = (i : Int) + 1 := IntWalk.i64_in _ (by omega)
  have hiz : (i : Int) ≤ (z.c0 : Int) := by omega
  have hiz2 : (i : Int) + 1 ≤ (z.n0 : Int) := by omega
  have hiz3 : (i : Int) + 1 ≤ (z.c0 : Int) := by omega
  have hiz4 : 0 ≤ (i : Int) + 1 := by omega
  have KS : Hid (∀ w' : World, BlkV w' g 48 [.int .i64 z.P0.st, .int .i64 z.P0.port, .int .i64 z.P0.to, .int .u32 z.P0.fi, .int .u32 z.P0.un, .int .u32 z.P0.ne, .int .u32 z.P0.wa, .int .i64 z.P0.wi, .int .i64 z.P0.ot, .slice z.P0.d.A z.P0.d.n z.P0.d.c, .slice z.P0.g.A z.P0.g.n z.P0.g.c, .int .i64 z.P1.st, .int .i64 z.P1.port, .int .i64 z.P1.to, .int .u32 z.P1.fi, .int .u32 z.P1.un, .int .u32 z.P1.ne, .int .u32 z.P1.wa, .int .i64 z.P1.wi, .int .i64 z.P1.ot, .slice z.P1.d.A z.P1.d.n z.P1.d.c, .slice z.P1.g.A z.P1.g.n z.P1.g.c, .slice z.A0 z.n0 z.c0, .slice z.A1 z.n1 z.c1] → w'.cell? ⟨g, 22, none⟩ = some (.slice (some ⟨b, 0, none⟩) z.n0 z.c0)) := Lib.hid fun w' h => by rw [← hA]; exact h.cell rfl
  clear hA2
  go_upto_region 17 with (fail)
  refine wp_region_X (S := fun w' => w'.cell? ⟨g, 22, none⟩ = some (.slice (some ⟨b, 0, none⟩) z.n0 z.c0)) 25 (by kernel_rfl) (KS.out _ (show BlkV wN.drew _ _ _ from HTN.out.blk)) (fun hHeld => ?_)
  refine wpAnyX_takeD (i := 0) (some 115) (v := ?_) rfl rfl (by kernel_rfl) (by kernel_rfl) (by kernel_rfl) (by kernel_rfl) (fun _ _ _ h => h) (Or.inl ⟨by rfl, ?_⟩) (by assumption) ?_
  rotate_left
  · (intro w hSw; (try dsimp only at hSw); go_simp; try with_reducible rfl)
  try simp only [Act.put, List.setIfInBounds_toArray, List.set_cons_zero, List.set_cons_succ]
  refine wpAnyX_takeD (i := 1) (some 116) (v := ?_) rfl rfl (by kernel_rfl) (by kernel_rfl) (by kernel_rfl) (by kernel_rfl) (fun _ _ _ h => h) (Or.inl ⟨by rfl, ?_⟩) (by assumption) ?_
  rotate_left
  · (intro w hSw; (try dsimp only at hSw); go_simp; try with_reducible rfl)
  try simp only [Act.put, List.setIfInBounds_toArray, List.set_cons_zero, List.set_cons_succ]
  refine wpAnyX_takeD (i := 3) (some 118) (v := ?_) rfl rfl (by kernel_rfl) (by kernel_rfl) (by kernel_rfl) (by kernel_rfl) (fun _ _ _ h => h) (Or.inl ⟨by rfl, ?_⟩) (by assumption) ?_
  rotate_left
  · (intro w hSw; (try dsimp only at hSw); go_simp; try with_reducible rfl)
  try simp only [Act.put, List.setIfInBounds_toArray, List.set_cons_zero, List.set_cons_succ]
  refine wpAnyX_takeD (i := 4) (some 119) (v := ?_) rfl rfl (by kernel_rfl) (by kernel_rfl) (by kernel_rfl) (by kernel_rfl) (fun _ _ _ h => h) (Or.inl ⟨by rfl, ?_⟩) (by assumption) ?_
  rotate_left
  · (intro w hSw; (try dsimp only at hSw); go_simp; try with_reducible rfl)
  try simp only [Act.put, List.setIfInBounds_toArray, List.set_cons_zero, List.set_cons_succ]
  refine wpAnyX_takeD (i := 5) (some 120) (v := ?_) rfl rfl (by kernel_rfl) (by kernel_rfl) (by kernel_rfl) (by kernel_rfl) (fun _ _ _ h => h) (Or.inl ⟨by rfl, ?_⟩) (by assumption) ?_
  rotate_left
  · (intro w hSw; (try dsimp only at hSw); go_simp; try with_reducible rfl)
  try simp only [Act.put, List.setIfInBounds_toArray, List.set_cons_zero, List.set_cons_succ]
  refine wpAnyX_takeD (i := 6) (some 121) (v := ?_) rfl rfl (by kernel_rfl) (by kernel_rfl) (by kernel_rfl) (by kernel_rfl) (fun _ _ _ h => h) (Or.inl ⟨by rfl, ?_⟩) (by assumption) ?_
  rotate_left
  · (intro w hSw; (try dsimp only at hSw); go_simp; try with_reducible rfl)
  try simp only [Act.put, List.setIfInBounds_toArray, List.set_cons_zero, List.set_cons_succ]
  refine wpAnyX_takeD (i := 7) (some 122) (v := ?_) rfl rfl (by kernel_rfl) (by kernel_rfl) (by kernel_rfl) (by kernel_rfl) (fun _ _ _ h => h) (Or.inl ⟨by rfl, ?_⟩) (by assumption) ?_
  rotate_left
  · (intro w hSw; (try dsimp only at hSw); go_simp; try with_reducible rfl)
  try simp only [Act.put, List.setIfInBounds_toArray, List.set_cons_zero, List.set_cons_succ]
  refine wpAnyX_takeD (i := 8) (some 123) (v := ?_) rfl rfl (by kernel_rfl) (by kernel_rfl) (by kernel_rfl) (by kernel_rfl) (fun _ _ _ h => h) (Or.inl ⟨by rfl, ?_⟩) (by assumption) ?_
  rotate_left
  · (intro w hSw; (try dsimp only at hSw); go_simp; try with_reducible rfl)
  try simp only [Act.put, List.setIfInBounds_toArray, List.set_cons_zero, List.set_cons_succ]
  refine wpAnyX_takeD (i := 9) (some 124) (v := ?_) rfl rfl (by kernel_rfl) (by kernel_rfl) (by kernel_rfl) (by kernel_rfl) (fun _ _ _ h => h) (Or.inl ⟨by rfl, ?_⟩) (by assumption) ?_
  rotate_left
  · (intro w hSw; (try dsimp only at hSw); go_simp; try with_reducible rfl)
  try simp only [Act.put, List.setIfInBounds_toArray, List.set_cons_zero, List.set_cons_succ]
  refine wpAnyX_takeD (i := 10) (some 125) (v := ?_) rfl rfl (by kernel_rfl) (by kernel_rfl) (by kernel_rfl) (by kernel_rfl) (fun _ _ _ h => h) (Or.inl ⟨by rfl, ?_⟩) (by assumption) ?_
  rotate_left
  · (intro w hSw; (try dsimp only at hSw); go_simp; try with_reducible rfl)
  try simp only [Act.put, List.setIfInBounds_toArray, List.set_cons_zero, List.set_cons_succ]
  refine wpAnyX_takeD (i := 12) (some 127) (v := ?_) rfl rfl (by kernel_rfl) (by kernel_rfl) (by kernel_rfl) (by kernel_rfl) (fun _ _ _ h => h) (Or.inl ⟨by rfl, ?_⟩) (by assumption) ?_
  rotate_left
  · (intro w hSw; (try dsimp only at hSw); go_simp; try with_reducible rfl)
  try simp only [Act.put, List.setIfInBounds_toArray, List.set_cons_zero, List.set_cons_succ]
  refine wpAnyX_takeD (i := 13) (some 128) (v := ?_) rfl rfl (by kernel_rfl) (by kernel_rfl) (by kernel_rfl) (by kernel_rfl) (fun _ _ _ h => h) (Or.inl ⟨by rfl, ?_⟩) (by assumption) ?_
  rotate_left
  · (intro w hSw; (try dsimp only at hSw); go_simp; try with_reducible rfl)
  try simp only [Act.put, List.setIfInBounds_toArray, List.set_cons_zero, List.set_cons_succ]
  refine wpAnyX_takeD (i := 14) (some 129) (v := ?_) rfl rfl (by kernel_rfl) (by kernel_rfl) (by kernel_rfl) (by kernel_rfl) (fun _ _ _ h => h) (Or.inl ⟨by rfl, ?_⟩) (by assumption) ?_
  rotate_left
  · (intro w hSw; (try dsimp only at hSw); go_simp; try with_reducible rfl)
  try simp only [Act.put, List.setIfInBounds_toArray, List.set_cons_zero, List.set_cons_succ]
  refine wpAnyX_takeD (i := 15) (some 130) (v := ?_) rfl rfl (by kernel_rfl) (by kernel_rfl) (by kernel_rfl) (by kernel_rfl) (fun _ _ _ h => h) (Or.inl ⟨by rfl, ?_⟩) (by assumption) ?_
  rotate_left
  · (intro w hSw; (try dsimp only at hSw); go_simp; try with_reducible rfl)
  try simp only [Act.put, List.setIfInBounds_toArray, List.set_cons_zero, List.set_cons_succ]
  refine wpAnyX_takeD (i := 16) (some 131) (v := ?_) rfl rfl (by kernel_rfl) (by kernel_rfl) (by kernel_rfl) (by kernel_rfl) (fun _ _ _ h => h) (Or.inl ⟨by rfl, ?_⟩) (by assumption) ?_
  rotate_left
  · (intro w hSw; (try dsimp only at hSw); go_simp; try with_reducible rfl)
  try simp only [Act.put, List.setIfInBounds_toArray, List.set_cons_zero, List.set_cons_succ]
  refine wpAnyX_takeD (i := 17) (some 132) (v := ?_) rfl rfl (by kernel_rfl) (by kernel_rfl) (by kernel_rfl) (by kernel_rfl) (fun _ _ _ h => h) (Or.inl ⟨by rfl, ?_⟩) (by assumption) ?_
  rotate_left
  · (intro w hSw; (try dsimp only at hSw); go_simp; try with_reducible rfl)
  try simp only [Act.put, List.setIfInBounds_toArray, List.set_cons_zero, List.set_cons_succ]
  refine wpAnyX_takeD (i := 18) (some 133) (v := ?_) rfl rfl (by kernel_rfl) (by kernel_rfl) (by kernel_rfl) (by kernel_rfl) (fun _ _ _ h => h) (Or.inl ⟨by rfl, ?_⟩) (by assumption) ?_
  rotate_left
  · (intro w hSw; (try dsimp only at hSw); go_simp; try with_reducible rfl)
  try simp only [Act.put, List.setIfInBounds_toArray, List.set_cons_zero, List.set_cons_succ]
  refine wpAnyX_takeD (i := 19) (some 134) (v := ?_) rfl rfl (by kernel_rfl) (by kernel_rfl) (by kernel_rfl) (by kernel_rfl) (fun _ _ _ h => h) (Or.inl ⟨by rfl, ?_⟩) (by assumption) ?_
  rotate_left
  · (intro w hSw; (try dsimp only at hSw); go_simp; try with_reducible rfl)
  try simp only [Act.put, List.setIfInBounds_toArray, List.set_cons_zero, List.set_cons_succ]
  refine wpAnyX_takeD (i := 20) (some 135) (v := ?_) rfl rfl (by kernel_rfl) (by kernel_rfl) (by kernel_rfl) (by kernel_rfl) (fun _ _ _ h => h) (Or.inl ⟨by rfl, ?_⟩) (by assumption) ?_
  rotate_left
  · (intro w hSw; (try dsimp only at hSw); go_simp; try with_reducible rfl)
  try simp only [Act.put, List.setIfInBounds_toArray, List.set_cons_zero, List.set_cons_succ]
  refine wpAnyX_takeD (i := 22) (some 137) (v := ?_) rfl rfl (by kernel_rfl) (by kernel_rfl) (by kernel_rfl) (by kernel_rfl) (fun _ _ _ h => h) (Or.inl ⟨by rfl, ?_⟩) (by assumption) ?_
  rotate_left
  · (intro w hSw; (try dsimp only at hSw); go_simp; try with_reducible rfl)
  try simp only [Act.put, List.setIfInBounds_toArray, List.set_cons_zero, List.set_cons_succ]
  refine wpAnyX_takeD (i := 23) (some 138) (v := ?_) rfl rfl (by kernel_rfl) (by kernel_rfl) (by kernel_rfl) (by kernel_rfl) (fun _ _ _ h => h) (Or.inl ⟨by rfl, ?_⟩) (by assumption) ?_
  rotate_left
  · (intro w hSw; (try dsimp only at hSw); go_simp; try with_reducible rfl)
  try simp only [Act.put, List.setIfInBounds_toArray, List.set_cons_zero, List.set_cons_succ]
  rw [← HA2.out]
  refine wpAnyX_ready (rs := [2]) (by kernel_rfl) (by simp) ?_
  refine AllReadyX.cons (o := _) rfl (fun K hK => ?_) AllReadyX.nil
  go_simp
  first | refine ct_gen (fun y1 hy1 => ?_) | refine ct_gend (fun y1 hy1 => ?_)
  have hby : Below wN.heap.size wN y1 := by rw [hy1]; first | exact bel_a (bel_d (Below.refl _ _)) _ | exact bel_d (bel_a (Below.refl _ _) _)
  have HO0 : Hid (y1.ownsRow wN.heap.size 37 9 (.slice (some ⟨wN.heap.size, 0, none⟩) 0 0) 0 []) := Lib.hid (by rw [hy1]; first | exact own_lit9 wN _ _ rfl | exact own_lit9 wN.drew _ _ rfl)
  clear hy1
  have HB1 := Lib.hid hby
  refine hK.out _ _ (KS.out _ (HTN.out.blk.below hby)) (fun hHeld => ?_)
  clear hK K
  try simp only [Act.put, List.setIfInBounds_toArray, List.set_cons_zero, List.set_cons_succ]
  refine wpAnyX_ready (rs := [11]) (by kernel_rfl) (by simp) ?_
  refine AllReadyX.cons (o := _) rfl (fun K hK => ?_) AllReadyX.nil
  refine step_app9 (by rfl) (.tmp 117) (.tmp 125) 45 (by rfl) wN HB1.out 37 _ 9 96 Try.underlying45 info_tcp rfl (by decide) (.slice (some ⟨wN.heap.size, 0, none⟩) 0 0) 0 [] (by rfl) HO0.out (some ⟨b, 0, none⟩) i _ (segCells (z.l0.take i)) (by rfl) (HR1.out.below HB1.out) (one_segs _) (by unfold maxLen; omega) (by omega) ?_
  intro A3 k3 y2 hown2 hby2 _ _
  rw [List.nil_append, Nat.zero_add] at hown2
  rw [Nat.zero_add]
  have HO2 := Lib.hid hown2
  have HB2 := Lib.hid hby2
  clear hown2 hby2 hby HO0 HB1
  refine hK.out _ _ (KS.out _ (HTN.out.blk.below HB2.out)) (fun hHeld => ?_)
  clear hK K
  try simp only [Act.put, List.setIfInBounds_toArray, List.set_cons_zero, List.set_cons_succ]
  refine wpAnyX_ready (rs := [21]) (by kernel_rfl) (by simp) ?_
  refine AllReadyX.cons (o := _) rfl (fun K hK => ?_) AllReadyX.nil
  refine step_app9 (by rfl) (.tmp 126) (.tmp 135) 45 (by rfl) wN HB2.out 37 _ 9 96 Try.underlying45 info_tcp rfl (by decide) (.slice A3 i k3) i (segCells (z.l0.take i)) (by rfl) HO2.out A2 (z.n0 - (i + 1)) (z.c0 - (i + 1)) (segCells (z.l0.drop (i + 1))) (by rfl) (HR2.out.below HB2.out) (one_segs _) (by unfold maxLen; omega) (by omega) ?_
  intro A4 k4 y3 hown3 hby3 _ _
  rw [← segCells_app, ← List.eraseIdx_eq_take_drop_succ] at hown3
  rw [show i + (z.n0 - (i + 1)) = z.n0 - 1 by omega] at hown3
  rw [show i + (z.n0 - (i + 1)) = z.n0 - 1 by omega]
  have HO3 := Lib.hid hown3
  have HB3 := Lib.hid hby3
  clear hown3 hby3 HO2 HB2
  refine hK.out _ _ (KS.out _ (HTN.out.blk.below HB3.out)) (fun hHeld => ?_)
  clear hK K
  try simp only [Act.put, List.setIfInBounds_toArray, List.set_cons_zero, List.set_cons_succ]
  refine wpAnyX_takeD (i := 24) (some 139) (v := ?_) rfl rfl (by kernel_rfl) (by kernel_rfl) (by kernel_rfl) (by kernel_rfl) (fun _ _ _ h => h) (Or.inl ⟨by rfl, ?_⟩) (by assumption) ?_
  rotate_left
  · (intro w hSw; (try dsimp only at hSw); go_simp; try with_reducible rfl)
  try simp only [Act.put, List.setIfInBounds_toArray, List.set_cons_zero, List.set_cons_succ]
  refine wpAnyX_ready (rs := [25]) (by kernel_rfl) (by simp) ?_
  refine AllReadyX.last (o := _) rfl (by kernel_rfl) (fun K hK => ?_)
  rw [if_pos (by rfl)]
  refine wp_stF 45 _ _ 22 (.slice A4 (z.n0 - 1) k4) rfl (by rfl) (by rfl) (by rfl) (HTN.out.blk.below HB3.out) (by simp) (by kernel_rfl) rfl ?_
  intro w6 B6 h6
  refine hK.out _ _ ?_
  clear hK K
  try simp only [Act.put, List.setIfInBounds_toArray, List.set_cons_zero, List.set_cons_succ]
  refine wpAnyX_done (by kernel_rfl) ?_ _
  have HT6 := Lib.hid (HTN.out.way0 (grown_none HB3.out) (HTN.out.bel.trans (HB3.out.mono HTN.out.bel.size)) (own_weak HO3.out HTN.out.bel.size) (fun x hx => HTN.out.t0 x (List.mem_of_mem_eraseIdx hx)) (.inr fun x hx => (HO3.out.lt x hx).1) h6 (BlkV.fit B6 rfl))
  have HK6 := Lib.hid (show ∀ (T : TypeId) (x : Nat) (l : List Value), x ≠ g → BlkV wN x T l → BlkV w6 x T l from fun T x l hx hb => (hb.below HB3.out).only h6 hx)
  have HTO6 := Lib.hid (show ∀ x, OwnT wN w0.heap.size x → OwnT w6 w0.heap.size x from fun x hx => OwnS.st (OwnS.below hx HB3.out) (HTN.out.blk.below HB3.out) h6 (by decide))
  have HS6 := Lib.hid (show wN.heap.size ≤ w6.heap.size by rw [h6.size]; exact HB3.out.size)
  clear HO3 HB3 B6 h6 KS HR1 HR2 HROW hHeld
  have d0 := cellF (HK6.out _ _ _ (by have := HGW.out; omega) DN) 0 rfl
  go_wp2_with fail
  go_end0
  exact ⟨rfl, _, HT6.out, by unfold Two.ct Pb.loseK; simp [erase_map]⟩
set_option maxHeartbeats 8000000 in
theorem do_lose1 (w0 w : World) (g : Nat) (z : Two) (h : TwoM w0 g z w) (kd at_ m : Int) (hk : 0 ≤ kd ∧ kd ≤ 255) (h5 : kd % 5 = 3) (a i : Nat) (ha : a ≤ 255) (hat : at_ = (a : Int)) (hi : i = a % z.n1) (hn0 : 0 < z.n1) (hn : z.n1 ≤ 100000) (t : Tcp.T) (ht : z.l1[i]? = some t) :
    Calls Try.prog 15 #[.pointer (some ⟨g, 0, none⟩), .agg #[.int .u8 kd, .bool true, .int .u8 at_], .int .i64 m] w fun e w' => e = .returned (.tuple #[]) ∧ ∃ z', TwoM w0 g z' w' ∧ z'.ct = Pb.loseK true i z.ct := by
  obtain ⟨A, hA⟩ : ∃ A, z.A1 = A := ⟨_, rfl⟩
  obtain ⟨b, rfl⟩ : ∃ b, A = some ⟨b, 0, none⟩ := by
    rcases h.r1.2 with ⟨hv, _⟩ | ⟨b, cap, cur, hv, _⟩
    · injection hv with h1 h2
      omega
    · injection hv with h1
      exact ⟨b, hA.symm.trans h1⟩
  have hLn := segs_len h.r1
  have HCE := Lib.hid (show ∀ v : World, TwoM w0 g z v → ∀ j u, t.cells[j]? = some u → v.cell? ⟨b, i * 9 + j, none⟩ = some u from fun v hv j u hu => seg_cell hv.r1 hA ht hu)
  have HCT := Lib.hid ht
  have hmod : (wrap64 at_).tmod (z.n1 : Int) = (i : Int) := by rw [hat, hi, show wrap64 (a : Int) = (a : Int) by unfold wrap64; omega]; exact (Int.ofNat_tmod a z.n1).symm
  have hin : (i : Int) < (z.n1 : Int) := by rw [hi]; exact Int.ofNat_lt.2 (Nat.mod_lt _ hn0)
  have hinN : i < z.n1 := by omega
  have hat0 : 0 ≤ at_ := by omega
  have HII := Lib.hid hi
  clear hat hi ht
  obtain ⟨W, hW⟩ : ∃ W, W = w.alloc (.cells #[.int .u8 kd, .bool true, .int .u8 at_] 51) := ⟨_, rfl⟩
  have hbW : Below w.heap.size w W := by rw [hW]; exact (Below.refl _ _).alloc (Nat.le_refl _) _
  have BD : BlkV W w.heap.size 51 [.int .u8 kd, .bool true, .int .u8 at_] := by rw [hW]; exact BlkV.new _ _ _
  have hWs : W.heap.size = w.heap.size + 1 := by rw [hW]; simp
  have HT := Lib.hid (h.below hbW)
  have HGW0 := Lib.hid h.blk.lt
  have HGW := Lib.hid (show g < w.heap.size from HGW0.out)
  have HNE0 : Hid (∀ g, (Value.slice z.A0 z.n0 z.c0).ownBlock = some g → g < W.heap.size) := Lib.hid fun g hg => (HT.out.r0.lt g hg).2
  have HNE1 : Hid (∀ g, (Value.slice z.A1 z.n1 z.c1).ownBlock = some g → g < W.heap.size) := Lib.hid fun g hg => (HT.out.r1.lt g hg).2
  have d0 := cellF BD 0 rfl
  have d1 := cellF BD 1 rfl
  clear h
  go_enter Try.func15, Try.ntmps15
  go_upto_region 1 with (fail)
  rw [← hW]
  clear hW
  go_upto_region 12 with (fail)
  have cw : W.cell? ⟨g, 23, none⟩ = some (.slice (some ⟨b, 0, none⟩) z.n1 z.c1) := by rw [← hA]; exact HT.out.blk.cell rfl
  have d2 := cellF BD 2 rfl
  go_upto_region 13 with (fail)
  go_quiet (fail)
  go_upto_region 14 with (fail)
  obtain ⟨V, hV⟩ : ∃ V, V = W.drewN nq := ⟨_, rfl⟩
  have HTV : Hid (TwoM w0 g z V) := Lib.hid (by rw [hV]; exact HT.out.below (bel_n (Below.refl _ _) _))
  have BDV : BlkV V w.heap.size 51 [.int .u8 kd, .bool true, .int .u8 at_] := by rw [hV]; exact BD
  have HVS : Hid (V.heap.size = W.heap.size) := Lib.hid (by rw [hV]; rfl)
  have cv : V.cell? ⟨g, 23, none⟩ = some (.slice (some ⟨b, 0, none⟩) z.n1 z.c1) := by rw [hV]; exact cw
  rw [← hV]
  clear hV cw d0 d1 d2 BD HT
  have B11 : BlkV (V.alloc (.cells #[.int .i64 0, .int .i64 0, .int .u32 0, .int .u32 0, .int .i64 0, .int .i64 0, .int .i64 0, .slice none 0 0, .slice none 0 0] 37)) V.heap.size 37 [.int .i64 0, .int .i64 0, .int .u32 0, .int .u32 0, .int .i64 0, .int .i64 0, .int .i64 0, .slice none 0 0, .slice none 0 0] := BlkV.new V _ _
  have hbv : Below V.heap.size V (V.alloc (.cells #[.int .i64 0, .int .i64 0, .int .u32 0, .int .u32 0, .int .i64 0, .int .i64 0, .int .i64 0, .slice none 0 0, .slice none 0 0] 37)) := bel_a (Below.refl _ _) _
  go_upto_region 15 with (first | (refine wpList_load_mid rfl 37 _ (by with_reducible rfl) b (i * 9) (by rfl) [.int .i64 t.sp, .int .i64 t.dp, .int .u32 t.sq, .int .u32 t.ak, .int .i64 t.fl, .int .i64 t.wi, .int .i64 t.ur, .slice t.Ao t.no t.co, .slice t.Ab t.nb t.cb] _ (HCE.out _ HTV.out) Try.underlying37 rfl (by kernel_rfl) ?_) | (refine wpList_stB 37 _ _ (by with_reducible rfl) rfl (by rfl) [.int .i64 t.sp, .int .i64 t.dp, .int .u32 t.sq, .int .u32 t.ak, .int .i64 t.fl, .int .i64 t.wi, .int .i64 t.ur, .slice t.Ao t.no t.co, .slice t.Ab t.nb t.cb] (by rfl) B11 (by rfl) (tcp_size (by rfl)) (by rfl) ?_; intro wN BN hN))
  have HTN := Lib.hid (HTV.out.below (hN.bel (Nat.le_refl _) hbv))
  have DN := (BDV.below hbv).only hN (by have := HVS.out; omega)
  have HLE := Lib.hid (show W.heap.size ≤ V.heap.size from Nat.le_of_eq HVS.out.symm)
  have HSN : Hid (wN.heap.size = V.heap.size + 1) := Lib.hid (by rw [hN.size]; simp)
  have d0 := cellF DN 0 rfl
  clear B11 hbv BDV cv HTV hN
  obtain ⟨A2, hA2⟩ : ∃ A2, A2 = (if z.c1 = i + 1 then some ⟨b, 0, none⟩ else some ⟨b, (i + 1) * 9, none⟩ : Option Addr) := ⟨_, rfl⟩
  have HROW := Lib.hid (hA ▸ HTN.out.r1 : wN.ownsRow w0.heap.size 37 9 (.slice (some ⟨b, 0, none⟩) z.n1 z.c1) z.n1 (segCells z.l1))
  have hcap := own_cap HROW.out
  have HR1 := Lib.hid (rd9_take (i := i) (Rd.of_own HROW.out) (by omega))
  have HR2 := Lib.hid (rd9_drop (i := i) (Rd.of_own HROW.out) hinN hcap)
  rw [← hA2] at HR2
  have HA2 := Lib.hid hA2
  have hw1 : IntKind.i64.wrap ((i : Int) + 1) = (i : Int) + 1 := IntWalk.i64_in _ (by omega)
  have hiz : (i : Int) ≤ (z.c1 : Int) := by omega
  have hiz2 : (i : Int) + 1 ≤ (z.n1 : Int) := by omega
  have hiz3 : (i : Int) + 1 ≤ (z.c1 : Int) := by omega
  have hiz4 : 0 ≤ (i : Int) + 1 := by omega
  have KS : Hid (∀ w' : World, BlkV w' g 48 [.int .i64 z.P0.st, .int .i64 z.P0.port, .int .i64 z.P0.to, .int .u32 z.P0.fi, .int .u32 z.P0.un, .int .u32 z.P0.ne, .int .u32 z.P0.wa, .int .i64 z.P0.wi, .int .i64 z.P0.ot, .slice z.P0.d.A z.P0.d.n z.P0.d.c, .slice z.P0.g.A z.P0.g.n z.P0.g.c, .int .i64 z.P1.st, .int .i64 z.P1.port, .int .i64 z.P1.to, .int .u32 z.P1.fi, .int .u32 z.P1.un, .int .u32 z.P1.ne, .int .u32 z.P1.wa, .int .i64 z.P1.wi, .int .i64 z.P1.ot, .slice z.P1.d.A z.P1.d.n z.P1.d.c, .slice z.P1.g.A z.P1.g.n z.P1.g.c, .slice z.A0 z.n0 z.c0, .slice z.A1 z.n1 z.c1] → w'.cell? ⟨g, 23, none⟩ = some (.slice (some ⟨b, 0, none⟩) z.n1 z.c1)) := Lib.hid fun w' h => by rw [← hA]; exact h.cell rfl
  clear hA2
  go_upto_region 17 with (fail)
  refine wp_region_X (S := fun w' => w'.cell? ⟨g, 23, none⟩ = some (.slice (some ⟨b, 0, none⟩) z.n1 z.c1)) 25 (by kernel_rfl) (KS.out _ (show BlkV wN.drew _ _ _ from HTN.out.blk)) (fun hHeld => ?_)
  refine wpAnyX_takeD (i := 0) (some 115) (v := ?_) rfl rfl (by kernel_rfl) (by kernel_rfl) (by kernel_rfl) (by kernel_rfl) (fun _ _ _ h => h) (Or.inl ⟨by rfl, ?_⟩) (by assumption) ?_
  rotate_left
  · (intro w hSw; (try dsimp only at hSw); go_simp; try with_reducible rfl)
  try simp only [Act.put, List.setIfInBounds_toArray, List.set_cons_zero, List.set_cons_succ]
  refine wpAnyX_takeD (i := 1) (some 116) (v := ?_) rfl rfl (by kernel_rfl) (by kernel_rfl) (by kernel_rfl) (by kernel_rfl) (fun _ _ _ h => h) (Or.inl ⟨by rfl, ?_⟩) (by assumption) ?_
  rotate_left
  · (intro w hSw; (try dsimp only at hSw); go_simp; try with_reducible rfl)
  try simp only [Act.put, List.setIfInBounds_toArray, List.set_cons_zero, List.set_cons_succ]
  refine wpAnyX_takeD (i := 3) (some 118) (v := ?_) rfl rfl (by kernel_rfl) (by kernel_rfl) (by kernel_rfl) (by kernel_rfl) (fun _ _ _ h => h) (Or.inl ⟨by rfl, ?_⟩) (by assumption) ?_
  rotate_left
  · (intro w hSw; (try dsimp only at hSw); go_simp; try with_reducible rfl)
  try simp only [Act.put, List.setIfInBounds_toArray, List.set_cons_zero, List.set_cons_succ]
  refine wpAnyX_takeD (i := 4) (some 119) (v := ?_) rfl rfl (by kernel_rfl) (by kernel_rfl) (by kernel_rfl) (by kernel_rfl) (fun _ _ _ h => h) (Or.inl ⟨by rfl, ?_⟩) (by assumption) ?_
  rotate_left
  · (intro w hSw; (try dsimp only at hSw); go_simp; try with_reducible rfl)
  try simp only [Act.put, List.setIfInBounds_toArray, List.set_cons_zero, List.set_cons_succ]
  refine wpAnyX_takeD (i := 5) (some 120) (v := ?_) rfl rfl (by kernel_rfl) (by kernel_rfl) (by kernel_rfl) (by kernel_rfl) (fun _ _ _ h => h) (Or.inl ⟨by rfl, ?_⟩) (by assumption) ?_
  rotate_left
  · (intro w hSw; (try dsimp only at hSw); go_simp; try with_reducible rfl)
  try simp only [Act.put, List.setIfInBounds_toArray, List.set_cons_zero, List.set_cons_succ]
  refine wpAnyX_takeD (i := 6) (some 121) (v := ?_) rfl rfl (by kernel_rfl) (by kernel_rfl) (by kernel_rfl) (by kernel_rfl) (fun _ _ _ h => h) (Or.inl ⟨by rfl, ?_⟩) (by assumption) ?_
  rotate_left
  · (intro w hSw; (try dsimp only at hSw); go_simp; try with_reducible rfl)
  try simp only [Act.put, List.setIfInBounds_toArray, List.set_cons_zero, List.set_cons_succ]
  refine wpAnyX_takeD (i := 7) (some 122) (v := ?_) rfl rfl (by kernel_rfl) (by kernel_rfl) (by kernel_rfl) (by kernel_rfl) (fun _ _ _ h => h) (Or.inl ⟨by rfl, ?_⟩) (by assumption) ?_
  rotate_left
  · (intro w hSw; (try dsimp only at hSw); go_simp; try with_reducible rfl)
  try simp only [Act.put, List.setIfInBounds_toArray, List.set_cons_zero, List.set_cons_succ]
  refine wpAnyX_takeD (i := 8) (some 123) (v := ?_) rfl rfl (by kernel_rfl) (by kernel_rfl) (by kernel_rfl) (by kernel_rfl) (fun _ _ _ h => h) (Or.inl ⟨by rfl, ?_⟩) (by assumption) ?_
  rotate_left
  · (intro w hSw; (try dsimp only at hSw); go_simp; try with_reducible rfl)
  try simp only [Act.put, List.setIfInBounds_toArray, List.set_cons_zero, List.set_cons_succ]
  refine wpAnyX_takeD (i := 9) (some 124) (v := ?_) rfl rfl (by kernel_rfl) (by kernel_rfl) (by kernel_rfl) (by kernel_rfl) (fun _ _ _ h => h) (Or.inl ⟨by rfl, ?_⟩) (by assumption) ?_
  rotate_left
  · (intro w hSw; (try dsimp only at hSw); go_simp; try with_reducible rfl)
  try simp only [Act.put, List.setIfInBounds_toArray, List.set_cons_zero, List.set_cons_succ]
  refine wpAnyX_takeD (i := 10) (some 125) (v := ?_) rfl rfl (by kernel_rfl) (by kernel_rfl) (by kernel_rfl) (by kernel_rfl) (fun _ _ _ h => h) (Or.inl ⟨by rfl, ?_⟩) (by assumption) ?_
  rotate_left
  · (intro w hSw; (try dsimp only at hSw); go_simp; try with_reducible rfl)
  try simp only [Act.put, List.setIfInBounds_toArray, List.set_cons_zero, List.set_cons_succ]
  refine wpAnyX_takeD (i := 12) (some 127) (v := ?_) rfl rfl (by kernel_rfl) (by kernel_rfl) (by kernel_rfl) (by kernel_rfl) (fun _ _ _ h => h) (Or.inl ⟨by rfl, ?_⟩) (by assumption) ?_
  rotate_left
  · (intro w hSw; (try dsimp only at hSw); go_simp; try with_reducible rfl)
  try simp only [Act.put, List.setIfInBounds_toArray, List.set_cons_zero, List.set_cons_succ]
  refine wpAnyX_takeD (i := 13) (some 128) (v := ?_) rfl rfl (by kernel_rfl) (by kernel_rfl) (by kernel_rfl) (by kernel_rfl) (fun _ _ _ h => h) (Or.inl ⟨by rfl, ?_⟩) (by assumption) ?_
  rotate_left
  · (intro w hSw; (try dsimp only at hSw); go_simp; try with_reducible rfl)
  try simp only [Act.put, List.setIfInBounds_toArray, List.set_cons_zero, List.set_cons_succ]
  refine wpAnyX_takeD (i := 14) (some 129) (v := ?_) rfl rfl (by kernel_rfl) (by kernel_rfl) (by kernel_rfl) (by kernel_rfl) (fun _ _ _ h => h) (Or.inl ⟨by rfl, ?_⟩) (by assumption) ?_
  rotate_left
  · (intro w hSw; (try dsimp only at hSw); go_simp; try with_reducible rfl)
  try simp only [Act.put, List.setIfInBounds_toArray, List.set_cons_zero, List.set_cons_succ]
  refine wpAnyX_takeD (i := 15) (some 130) (v := ?_) rfl rfl (by kernel_rfl) (by kernel_rfl) (by kernel_rfl) (by kernel_rfl) (fun _ _ _ h => h) (Or.inl ⟨by rfl, ?_⟩) (by assumption) ?_
  rotate_left
  · (intro w hSw; (try dsimp only at hSw); go_simp; try with_reducible rfl)
  try simp only [Act.put, List.setIfInBounds_toArray, List.set_cons_zero, List.set_cons_succ]
  refine wpAnyX_takeD (i := 16) (some 131) (v := ?_) rfl rfl (by kernel_rfl) (by kernel_rfl) (by kernel_rfl) (by kernel_rfl) (fun _ _ _ h => h) (Or.inl ⟨by rfl, ?_⟩) (by assumption) ?_
  rotate_left
  · (intro w hSw; (try dsimp only at hSw); go_simp; try with_reducible rfl)
  try simp only [Act.put, List.setIfInBounds_toArray, List.set_cons_zero, List.set_cons_succ]
  refine wpAnyX_takeD (i := 17) (some 132) (v := ?_) rfl rfl (by kernel_rfl) (by kernel_rfl) (by kernel_rfl) (by kernel_rfl) (fun _ _ _ h => h) (Or.inl ⟨by rfl, ?_⟩) (by assumption) ?_
  rotate_left
  · (intro w hSw; (try dsimp only at hSw); go_simp; try with_reducible rfl)
  try simp only [Act.put, List.setIfInBounds_toArray, List.set_cons_zero, List.set_cons_succ]
  refine wpAnyX_takeD (i := 18) (some 133) (v := ?_) rfl rfl (by kernel_rfl) (by kernel_rfl) (by kernel_rfl) (by kernel_rfl) (fun _ _ _ h => h) (Or.inl ⟨by rfl, ?_⟩) (by assumption) ?_
  rotate_left
  · (intro w hSw; (try dsimp only at hSw); go_simp; try with_reducible rfl)
  try simp only [Act.put, List.setIfInBounds_toArray, List.set_cons_zero, List.set_cons_succ]
  refine wpAnyX_takeD (i := 19) (some 134) (v := ?_) rfl rfl (by kernel_rfl) (by kernel_rfl) (by kernel_rfl) (by kernel_rfl) (fun _ _ _ h => h) (Or.inl ⟨by rfl, ?_⟩) (by assumption) ?_
  rotate_left
  · (intro w hSw; (try dsimp only at hSw); go_simp; try with_reducible rfl)
  try simp only [Act.put, List.setIfInBounds_toArray, List.set_cons_zero, List.set_cons_succ]
  refine wpAnyX_takeD (i := 20) (some 135) (v := ?_) rfl rfl (by kernel_rfl) (by kernel_rfl) (by kernel_rfl) (by kernel_rfl) (fun _ _ _ h => h) (Or.inl ⟨by rfl, ?_⟩) (by assumption) ?_
  rotate_left
  · (intro w hSw; (try dsimp only at hSw); go_simp; try with_reducible rfl)
  try simp only [Act.put, List.setIfInBounds_toArray, List.set_cons_zero, List.set_cons_succ]
  refine wpAnyX_takeD (i := 22) (some 137) (v := ?_) rfl rfl (by kernel_rfl) (by kernel_rfl) (by kernel_rfl) (by kernel_rfl) (fun _ _ _ h => h) (Or.inl ⟨by rfl, ?_⟩) (by assumption) ?_
  rotate_left
  · (intro w hSw; (try dsimp only at hSw); go_simp; try with_reducible rfl)
  try simp only [Act.put, List.setIfInBounds_toArray, List.set_cons_zero, List.set_cons_succ]
  refine wpAnyX_takeD (i := 23) (some 138) (v := ?_) rfl rfl (by kernel_rfl) (by kernel_rfl) (by kernel_rfl) (by kernel_rfl) (fun _ _ _ h => h) (Or.inl ⟨by rfl, ?_⟩) (by assumption) ?_
  rotate_left
  · (intro w hSw; (try dsimp only at hSw); go_simp; try with_reducible rfl)
  try simp only [Act.put, List.setIfInBounds_toArray, List.set_cons_zero, List.set_cons_succ]
  rw [← HA2.out]
  refine wpAnyX_ready (rs := [2]) (by kernel_rfl) (by simp) ?_
  refine AllReadyX.cons (o := _) rfl (fun K hK => ?_) AllReadyX.nil
  go_simp
  first | refine ct_gen (fun y1 hy1 => ?_) | refine ct_gend (fun y1 hy1 => ?_)
  have hby : Below wN.heap.size wN y1 := by rw [hy1]; first | exact bel_a (bel_d (Below.refl _ _)) _ | exact bel_d (bel_a (Below.refl _ _) _)
  have HO0 : Hid (y1.ownsRow wN.heap.size 37 9 (.slice (some ⟨wN.heap.size, 0, none⟩) 0 0) 0 []) := Lib.hid (by rw [hy1]; first | exact own_lit9 wN _ _ rfl | exact own_lit9 wN.drew _ _ rfl)
  clear hy1
  have HB1 := Lib.hid hby
  refine hK.out _ _ (KS.out _ (HTN.out.blk.below hby)) (fun hHeld => ?_)
  clear hK K
  try simp only [Act.put, List.setIfInBounds_toArray, List.set_cons_zero, List.set_cons_succ]
  refine wpAnyX_ready (rs := [11]) (by kernel_rfl) (by simp) ?_
  refine AllReadyX.cons (o := _) rfl (fun K hK => ?_) AllReadyX.nil
  refine step_app9 (by rfl) (.tmp 117) (.tmp 125) 45 (by rfl) wN HB1.out 37 _ 9 96 Try.underlying45 info_tcp rfl (by decide) (.slice (some ⟨wN.heap.size, 0, none⟩) 0 0) 0 [] (by rfl) HO0.out (some ⟨b, 0, none⟩) i _ (segCells (z.l1.take i)) (by rfl) (HR1.out.below HB1.out) (one_segs _) (by unfold maxLen; omega) (by omega) ?_
  intro A3 k3 y2 hown2 hby2 _ _
  rw [List.nil_append, Nat.zero_add] at hown2
  rw [Nat.zero_add]
  have HO2 := Lib.hid hown2
  have HB2 := Lib.hid hby2
  clear hown2 hby2 hby HO0 HB1
  refine hK.out _ _ (KS.out _ (HTN.out.blk.below HB2.out)) (fun hHeld => ?_)
  clear hK K
  try simp only [Act.put, List.setIfInBounds_toArray, List.set_cons_zero, List.set_cons_succ]
  refine wpAnyX_ready (rs := [21]) (by kernel_rfl) (by simp) ?_
  refine AllReadyX.cons (o := _) rfl (fun K hK => ?_) AllReadyX.nil
  refine step_app9 (by rfl) (.tmp 126) (.tmp 135) 45 (by rfl) wN HB2.out 37 _ 9 96 Try.underlying45 info_tcp rfl (by decide) (.slice A3 i k3) i (segCells (z.l1.take i)) (by rfl) HO2.out A2 (z.n1 - (i + 1)) (z.c1 - (i + 1)) (segCells (z.l1.drop (i + 1))) (by rfl) (HR2.out.below HB2.out) (one_segs _) (by unfold maxLen; omega) (by omega) ?_
  intro A4 k4 y3 hown3 hby3 _ _
  rw [← segCells_app, ← List.eraseIdx_eq_take_drop_succ] at hown3
  rw [show i + (z.n1 - (i + 1)) = z.n1 - 1 by omega] at hown3
  rw [show i + (z.n1 - (i + 1)) = z.n1 - 1 by omega]
  have HO3 := Lib.hid hown3
  have HB3 := Lib.hid hby3
  clear hown3 hby3 HO2 HB2
  refine hK.out _ _ (KS.out _ (HTN.out.blk.below HB3.out)) (fun hHeld => ?_)
  clear hK K
  try simp only [Act.put, List.setIfInBounds_toArray, List.set_cons_zero, List.set_cons_succ]
  refine wpAnyX_takeD (i := 24) (some 139) (v := ?_) rfl rfl (by kernel_rfl) (by kernel_rfl) (by kernel_rfl) (by kernel_rfl) (fun _ _ _ h => h) (Or.inl ⟨by rfl, ?_⟩) (by assumption) ?_
  rotate_left
  · (intro w hSw; (try dsimp only at hSw); go_simp; try with_reducible rfl)
  try simp only [Act.put, List.setIfInBounds_toArray, List.set_cons_zero, List.set_cons_succ]
  refine wpAnyX_ready (rs := [25]) (by kernel_rfl) (by simp) ?_
  refine AllReadyX.last (o := _) rfl (by kernel_rfl) (fun K hK => ?_)
  rw [if_pos (by rfl)]
  refine wp_stF 45 _ _ 23 (.slice A4 (z.n1 - 1) k4) rfl (by rfl) (by rfl) (by rfl) (HTN.out.blk.below HB3.out) (by simp) (by kernel_rfl) rfl ?_
  intro w6 B6 h6
  refine hK.out _ _ ?_
  clear hK K
  try simp only [Act.put, List.setIfInBounds_toArray, List.set_cons_zero, List.set_cons_succ]
  refine wpAnyX_done (by kernel_rfl) ?_ _
  have HT6 := Lib.hid (HTN.out.way1 (grown_none HB3.out) (HTN.out.bel.trans (HB3.out.mono HTN.out.bel.size)) (own_weak HO3.out HTN.out.bel.size) (fun x hx => HTN.out.t1 x (List.mem_of_mem_eraseIdx hx)) (.inr fun x hx => (HO3.out.lt x hx).1) h6 (BlkV.fit B6 rfl))
  have HK6 := Lib.hid (show ∀ (T : TypeId) (x : Nat) (l : List Value), x ≠ g → BlkV wN x T l → BlkV w6 x T l from fun T x l hx hb => (hb.below HB3.out).only h6 hx)
  have HTO6 := Lib.hid (show ∀ x, OwnT wN w0.heap.size x → OwnT w6 w0.heap.size x from fun x hx => OwnS.st (OwnS.below hx HB3.out) (HTN.out.blk.below HB3.out) h6 (by decide))
  have HS6 := Lib.hid (show wN.heap.size ≤ w6.heap.size by rw [h6.size]; exact HB3.out.size)
  clear HO3 HB3 B6 h6 KS HR1 HR2 HROW hHeld
  have d0 := cellF (HK6.out _ _ _ (by have := HGW.out; omega) DN) 0 rfl
  go_wp2_with fail
  go_end0
  exact ⟨rfl, _, HT6.out, by unfold Two.ct Pb.loseK; simp [erase_map]⟩
end Go.Proofs.Ytihhcalgjkkalaa
