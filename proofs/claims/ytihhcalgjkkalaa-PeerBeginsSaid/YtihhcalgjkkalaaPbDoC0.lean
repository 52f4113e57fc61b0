/- The walk of what happens between two: a segment comes. (Printed by tools/gen_pbdo.py.) -/
import Derived.Test.YtihhcalgjkkalaaPbMem
import Derived.Test.YtihhcalgjkkalaaOrders
namespace Go.Proofs.Ytihhcalgjkkalaa
open Go.RowKit
set_option linter.unusedVariables false
set_option linter.unusedSimpArgs false
set_option maxRecDepth 8000
set_option maxHeartbeats 16000000 in
theorem do_come0 (w0 w : World) (g : Nat) (z : Two) (h : TwoM w0 g z w) (kd at_ m : Int) (hk : 0 ≤ kd ∧ kd ≤ 255) (h5 : kd % 5 = 2) (a i : Nat) (ha : a ≤ 255) (hat : at_ = (a : Int)) (hi : i = a % z.n0) (hn0 : 0 < z.n0) (hn : z.n0 ≤ 100000) (hnj : z.n1 ≤ 100000) (t : Tcp.T) (ht : z.l0[i]? = some t) (hI : Pb.In32 z.P1.con) (hF : Pb.Fits z.P1.con t.con) (hTk : Pb.Takes z.P1.con t.con) :
    Calls Try.prog 15 #[.pointer (some ⟨g, 0, none⟩), .agg #[.int .u8 kd, .bool false, .int .u8 at_], .int .i64 m] w fun e w' => e = .returned (.tuple #[]) ∧ ∃ z', TwoM w0 g z' w' ∧ z'.ct = Pb.comeK false i z.ct := by
  have HI := Lib.hid hI
  have HF := Lib.hid hF
  have HTK := Lib.hid hTk
  clear hI hF hTk
  obtain ⟨A, hA⟩ : ∃ A, z.A0 = A := ⟨_, rfl⟩
  obtain ⟨b, rfl⟩ : ∃ b, A = some ⟨b, 0, none⟩ := by
    rcases h.r0.2 with ⟨hv, _⟩ | ⟨b, cap, cur, hv, _⟩
    · injection hv with h1 h2
      omega
    · injection hv with h1
      exact ⟨b, hA.symm.trans h1⟩
  have hLn := segs_len h.r0
  have HCE := Lib.hid (show ∀ v : World, TwoM w0 g z v → ∀ j u, t.cells[j]? = some u → v.cell? ⟨b, i * 9 + j, none⟩ = some u from fun v hv j u hu => seg_cell hv.r0 hA ht hu)
  have HCT := Lib.hid ht
  have hmod : (wrap64 at_).tmod (z.n0 : Int) = (i : Int) := by rw [hat, hi, show wrap64 (a : Int) = (a : Int) by unfold wrap64; omega]; exact (Int.ofNat_tmod a z.n0).symm
  have hin : (i : Int) < (z.n0 : Int) := by rw [hi]; exact Int.ofNat_lt.2 (Nat.mod_lt _ hn0)
  have hinN : i < z.n0 := by omega
  have hat0 : 0 ≤ at_ := by omega
  have HII := Lib.hid hi
  clear hat hi ht
  obtain ⟨W, hW⟩ : ∃ W, W = w.alloc (.cells #[.int .u8 kd, .bool false, .int .u8 at_] 51) := ⟨_, rfl⟩
  have hbW : Below w.heap.size w W := by rw [hW]; exact (Below.refl _ _).alloc (Nat.le_refl _) _
  have BD : BlkV W w.heap.size 51 [.int .u8 kd, .bool false, .int .u8 at_] := by rw [hW]; exact BlkV.new _ _ _
  have hWs : W.heap.size = w.heap.size + 1 := by rw [hW]; simp
  have HT := Lib.hid (h.below hbW)
  have HGW0 := Lib.hid h.blk.lt
  have HGW := Lib.hid (show g < w.heap.size from HGW0.out)
  have HNE0 : Hid (∀ g, (Value.slice z.A0 z.n0 z.c0).ownBlock = some g → g < W.heap.size) := Lib.hid fun g hg => (HT.out.r0.lt g hg).2
  have HNE1 : Hid (∀ g, (Value.slice z.A1 z.n1 z.c1).ownBlock = some g → g < W.heap.size) := Lib.hid fun g hg => (HT.out.r1.lt g hg).2
  have d0 := cellF BD 0 rfl
  have d1 := cellF BD 1 rfl
  clear h
  go_enter Try.func15, Try.ntmps15
  go_upto_region 1 with (fail)
  rw [← hW]
  clear hW
  go_upto_region 12 with (fail)
  have cw : W.cell? ⟨g, 22, none⟩ = some (.slice (some ⟨b, 0, none⟩) z.n0 z.c0) := by rw [← hA]; exact HT.out.blk.cell rfl
  have d2 := cellF BD 2 rfl
  go_upto_region 13 with (fail)
  go_quiet (fail)
  go_upto_region 14 with (fail)
  obtain ⟨V, hV⟩ : ∃ V, V = W.drewN nq := ⟨_, rfl⟩
  have HTV : Hid (TwoM w0 g z V) := Lib.hid (by rw [hV]; exact HT.out.below (bel_n (Below.refl _ _) _))
  have BDV : BlkV V w.heap.size 51 [.int .u8 kd, .bool false, .int .u8 at_] := by rw [hV]; exact BD
  have HVS : Hid (V.heap.size = W.heap.size) := Lib.hid (by rw [hV]; rfl)
  have cv : V.cell? ⟨g, 22, none⟩ = some (.slice (some ⟨b, 0, none⟩) z.n0 z.c0) := by rw [hV]; exact cw
  rw [← hV]
  clear hV cw d0 d1 d2 BD HT
  have B11 : BlkV (V.alloc (.cells #[.int .i64 0, .int .i64 0, .int .u32 0, .int .u32 0, .int .i64 0, .int .i64 0, .int .i64 0, .slice none 0 0, .slice none 0 0] 37)) V.heap.size 37 [.int .i64 0, .int .i64 0, .int .u32 0, .int .u32 0, .int .i64 0, .int .i64 0, .int .i64 0, .slice none 0 0, .slice none 0 0] := BlkV.new V _ _
  have hbv : Below V.heap.size V (V.alloc (.cells #[.int .i64 0, .int .i64 0, .int .u32 0, .int .u32 0, .int .i64 0, .int .i64 0, .int .i64 0, .slice none 0 0, .slice none 0 0] 37)) := bel_a (Below.refl _ _) _
  go_upto_region 15 with (first | (refine wpList_load_mid rfl 37 _ (by with_reducible rfl) b (i * 9) (by rfl) [.int .i64 t.sp, .int .i64 t.dp, .int .u32 t.sq, .int .u32 t.ak, .int .i64 t.fl, .int .i64 t.wi, .int .i64 t.ur, .slice t.Ao t.no t.co, .slice t.Ab t.nb t.cb] _ (HCE.out _ HTV.out) Try.underlying37 rfl (by kernel_rfl) ?_) | (refine wpList_stB 37 _ _ (by with_reducible rfl) rfl (by rfl) [.int .i64 t.sp, .int .i64 t.dp, .int .u32 t.sq, .int .u32 t.ak, .int .i64 t.fl, .int .i64 t.wi, .int .i64 t.ur, .slice t.Ao t.no t.co, .slice t.Ab t.nb t.cb] (by rfl) B11 (by rfl) (tcp_size (by rfl)) (by rfl) ?_; intro wN BN hN))
  have HTN := Lib.hid (HTV.out.below (hN.bel (Nat.le_refl _) hbv))
  have DN := (BDV.below hbv).only hN (by have := HVS.out; omega)
  have HLE := Lib.hid (show W.heap.size ≤ V.heap.size from Nat.le_of_eq HVS.out.symm)
  have HSN : Hid (wN.heap.size = V.heap.size + 1) := Lib.hid (by rw [hN.size]; simp)
  have d0 := cellF DN 0 rfl
  clear B11 hbv BDV cv HTV hN
  obtain ⟨A2, hA2⟩ : ∃ A2, A2 = (if z.c0 = i + 1 then some ⟨b, 0, none⟩ else some ⟨b, (i + 1) * 9, none⟩ : Option Addr) := ⟨_, rfl⟩
  have HROW := Lib.hid (hA ▸ HTN.out.r0 : wN.ownsRow w0.heap.size 37 9 (.slice (some ⟨b, 0, none⟩) z.n0 z.c0) z.n0 (segCells z.l0))
  have hcap := own_cap HROW.out
  have HR1 := Lib.hid (rd9_take (i := i) (Rd.of_own HROW.out) (by omega))
  have HR2 := Lib.hid (rd9_drop (i := i) (Rd.of_own HROW.out) hinN hcap)
  rw [← hA2] at HR2
  have HA2 := Lib.hid hA2
  have hw1 : IntKind.i64.wrap ((i : Int) + 1) = (i : Int) + 1 := IntWalk.i64_in _ (by omega)
  have hiz : (i : Int) ≤ (z.c0 : Int) := by omega
  have hiz2 : (i : Int) + 1 ≤ (z.n0 : Int) := by omega
  have hiz3 : (i : Int) + 1 ≤ (z.c0 : Int) := by omega
  have hiz4 : 0 ≤ (i : Int) + 1 := by omega
  have KS : Hid (∀ w' : World, BlkV w' g 48 [.int .i64 z.P0.st, .int .i64 z.P0.port, .int .i64 z.P0.to, .int .u32 z.P0.fi, .int .u32 z.P0.un, .int .u32 z.P0.ne, .int .u32 z.P0.wa, .int .i64 z.P0.wi, .int .i64 z.P0.ot, .slice z.P0.d.A z.P0.d.n z.P0.d.c, .slice z.P0.g.A z.P0.g.n z.P0.g.c, .int .i64 z.P1.st, .int .i64 z.P1.port, .int .i64 z.P1.to, .int .u32 z.P1.fi, .int .u32 z.P1.un, .int .u32 z.P1.ne, .int .u32 z.P1.wa, .int .i64 z.P1.wi, .int .i64 z.P1.ot, .slice z.P1.d.A z.P1.d.n z.P1.d.c, .slice z.P1.g.A z.P1.g.n z.P1.g.c, .slice z.A0 z.n0 z.c0, .slice z.A1 z.n1 z.c1] → w'.cell? ⟨g, 22, none⟩ = some (.slice (some ⟨b, 0, none⟩) z.n0 z.c0)) := Lib.hid fun w' h => by rw [← hA]; exact h.cell rfl
  clear hA2
  go_upto_region 17 with (fail)
  refine wp_region_X (S := fun w' => w'.cell? ⟨g, 22, none⟩ = some (.slice (some ⟨b, 0, none⟩) z.n0 z.c0)) 25 (by kernel_rfl) (KS.out _ (show BlkV wN.drew _ _ _ from HTN.out.blk)) (fun hHeld => ?_)
  refine wpAnyX_takeD (i := 0) (some 115) (v := ?_) rfl rfl (by kernel_rfl) (by kernel_rfl) (by kernel_rfl) (by kernel_rfl) (fun _ _ _ h => h) (Or.inl ⟨by rfl, ?_⟩) (by assumption) ?_
  rotate_left
  · (intro w hSw; (try dsimp only at hSw); go_simp; try with_reducible rfl)
  try simp only [Act.put, List.setIfInBounds_toArray, List.set_cons_zero, List.set_cons_succ]
  refine wpAnyX_takeD (i := 1) (some 116) (v := ?_) rfl rfl (by kernel_rfl) (by kernel_rfl) (by kernel_rfl) (by kernel_rfl) (fun _ _ _ h => h) (Or.inl ⟨by rfl, ?_⟩) (by assumption) ?_
  rotate_left
  · (intro w hSw; (try dsimp only at hSw); go_simp; try with_reducible rfl)
  try simp only [Act.put, List.setIfInBounds_toArray, List.set_cons_zero, List.set_cons_succ]
  refine wpAnyX_takeD (i := 3) (some 118) (v := ?_) rfl rfl (by kernel_rfl) (by kernel_rfl) (by kernel_rfl) (by kernel_rfl) (fun _ _ _ h => h) (Or.inl ⟨by rfl, ?_⟩) (by assumption) ?_
  rotate_left
  · (intro w hSw; (try dsimp only at hSw); go_simp; try with_reducible rfl)
  try simp only [Act.put, List.setIfInBounds_toArray, List.set_cons_zero, List.set_cons_succ]
  refine wpAnyX_takeD (i := 4) (some 119) (v := ?_) rfl rfl (by kernel_rfl) (by kernel_rfl) (by kernel_rfl) (by kernel_rfl) (fun _ _ _ h => h) (Or.inl ⟨by rfl, ?_⟩) (by assumption) ?_
  rotate_left
  · (intro w hSw; (try dsimp only at hSw); go_simp; try with_reducible rfl)
  try simp only [Act.put, List.setIfInBounds_toArray, List.set_cons_zero, List.set_cons_succ]
  refine wpAnyX_takeD (i := 5) (some 120) (v := ?_) rfl rfl (by kernel_rfl) (by kernel_rfl) (by kernel_rfl) (by kernel_rfl) (fun _ _ _ h => h) (Or.inl ⟨by rfl, ?_⟩) (by assumption) ?_
  rotate_left
  · (intro w hSw; (try dsimp only at hSw); go_simp; try with_reducible rfl)
  try simp only [Act.put, List.setIfInBounds_toArray, List.set_cons_zero, List.set_cons_succ]
  refine wpAnyX_takeD (i := 6) (some 121) (v := ?_) rfl rfl (by kernel_rfl) (by kernel_rfl) (by kernel_rfl) (by kernel_rfl) (fun _ _ _ h => h) (Or.inl ⟨by rfl, ?_⟩) (by assumption) ?_
  rotate_left
  · (intro w hSw; (try dsimp only at hSw); go_simp; try with_reducible rfl)
  try simp only [Act.put, List.setIfInBounds_toArray, List.set_cons_zero, List.set_cons_succ]
  refine wpAnyX_takeD (i := 7) (some 122) (v := ?_) rfl rfl (by kernel_rfl) (by kernel_rfl) (by kernel_rfl) (by kernel_rfl) (fun _ _ _ h => h) (Or.inl ⟨by rfl, ?_⟩) (by assumption) ?_
  rotate_left
  · (intro w hSw; (try dsimp only at hSw); go_simp; try with_reducible rfl)
  try simp only [Act.put, List.setIfInBounds_toArray, List.set_cons_zero, List.set_cons_succ]
  refine wpAnyX_takeD (i := 8) (some 123) (v := ?_) rfl rfl (by kernel_rfl) (by kernel_rfl) (by kernel_rfl) (by kernel_rfl) (fun _ _ _ h => h) (Or.inl ⟨by rfl, ?_⟩) (by assumption) ?_
  rotate_left
  · (intro w hSw; (try dsimp only at hSw); go_simp; try with_reducible rfl)
  try simp only [Act.put, List.setIfInBounds_toArray, List.set_cons_zero, List.set_cons_succ]
  refine wpAnyX_takeD (i := 9) (some 124) (v := ?_) rfl rfl (by kernel_rfl) (by kernel_rfl) (by kernel_rfl) (by kernel_rfl) (fun _ _ _ h => h) (Or.inl ⟨by rfl, ?_⟩) (by assumption) ?_
  rotate_left
  · (intro w hSw; (try dsimp only at hSw); go_simp; try with_reducible rfl)
  try simp only [Act.put, List.setIfInBounds_toArray, List.set_cons_zero, List.set_cons_succ]
  refine wpAnyX_takeD (i := 10) (some 125) (v := ?_) rfl rfl (by kernel_rfl) (by kernel_rfl) (by kernel_rfl) (by kernel_rfl) (fun _ _ _ h => h) (Or.inl ⟨by rfl, ?_⟩) (by assumption) ?_
  rotate_left
  · (intro w hSw; (try dsimp only at hSw); go_simp; try with_reducible rfl)
  try simp only [Act.put, List.setIfInBounds_toArray, List.set_cons_zero, List.set_cons_succ]
  refine wpAnyX_takeD (i := 12) (some 127) (v := ?_) rfl rfl (by kernel_rfl) (by kernel_rfl) (by kernel_rfl) (by kernel_rfl) (fun _ _ _ h => h) (Or.inl ⟨by rfl, ?_⟩) (by assumption) ?_
  rotate_left
  · (intro w hSw; (try dsimp only at hSw); go_simp; try with_reducible rfl)
  try simp only [Act.put, List.setIfInBounds_toArray, List.set_cons_zero, List.set_cons_succ]
  refine wpAnyX_takeD (i := 13) (some 128) (v := ?_) rfl rfl (by kernel_rfl) (by kernel_rfl) (by kernel_rfl) (by kernel_rfl) (fun _ _ _ h => h) (Or.inl ⟨by rfl, ?_⟩) (by assumption) ?_
  rotate_left
  · (intro w hSw; (try dsimp only at hSw); go_simp; try with_reducible rfl)
  try simp only [Act.put, List.setIfInBounds_toArray, List.set_cons_zero, List.set_cons_succ]
  refine wpAnyX_takeD (i := 14) (some 129) (v := ?_) rfl rfl (by kernel_rfl) (by kernel_rfl) (by kernel_rfl) (by kernel_rfl) (fun _ _ _ h => h) (Or.inl ⟨by rfl, ?_⟩) (by assumption) ?_
  rotate_left
  · (intro w hSw; (try dsimp only at hSw); go_simp; try with_reducible rfl)
  try simp only [Act.put, List.setIfInBounds_toArray, List.set_cons_zero, List.set_cons_succ]
  refine wpAnyX_takeD (i := 15) (some 130) (v := ?_) rfl rfl (by kernel_rfl) (by kernel_rfl) (by kernel_rfl) (by kernel_rfl) (fun _ _ _ h => h) (Or.inl ⟨by rfl, ?_⟩) (by assumption) ?_
  rotate_left
  · (intro w hSw; (try dsimp only at hSw); go_simp; try with_reducible rfl)
  try simp only [Act.put, List.setIfInBounds_toArray, List.set_cons_zero, List.set_cons_succ]
  refine wpAnyX_takeD (i := 16) (some 131) (v := ?_) rfl rfl (by kernel_rfl) (by kernel_rfl) (by kernel_rfl) (by kernel_rfl) (fun _ _ _ h => h) (Or.inl ⟨by rfl, ?_⟩) (by assumption) ?_
  rotate_left
  · (intro w hSw; (try dsimp only at hSw); go_simp; try with_reducible rfl)
  try simp only [Act.put, List.setIfInBounds_toArray, List.set_cons_zero, List.set_cons_succ]
  refine wpAnyX_takeD (i := 17) (some 132) (v := ?_) rfl rfl (by kernel_rfl) (by kernel_rfl) (by kernel_rfl) (by kernel_rfl) (fun _ _ _ h => h) (Or.inl ⟨by rfl, ?_⟩) (by assumption) ?_
  rotate_left
  · (intro w hSw; (try dsimp only at hSw); go_simp; try with_reducible rfl)
  try simp only [Act.put, List.setIfInBounds_toArray, List.set_cons_zero, List.set_cons_succ]
  refine wpAnyX_takeD (i := 18) (some 133) (v := ?_) rfl rfl (by kernel_rfl) (by kernel_rfl) (by kernel_rfl) (by kernel_rfl) (fun _ _ _ h => h) (Or.inl ⟨by rfl, ?_⟩) (by assumption) ?_
  rotate_left
  · (intro w hSw; (try dsimp only at hSw); go_simp; try with_reducible rfl)
  try simp only [Act.put, List.setIfInBounds_toArray, List.set_cons_zero, List.set_cons_succ]
  refine wpAnyX_takeD (i := 19) (some 134) (v := ?_) rfl rfl (by kernel_rfl) (by kernel_rfl) (by kernel_rfl) (by kernel_rfl) (fun _ _ _ h => h) (Or.inl ⟨by rfl, ?_⟩) (by assumption) ?_
  rotate_left
  · (intro w hSw; (try dsimp only at hSw); go_simp; try with_reducible rfl)
  try simp only [Act.put, List.setIfInBounds_toArray, List.set_cons_zero, List.set_cons_succ]
  refine wpAnyX_takeD (i := 20) (some 135) (v := ?_) rfl rfl (by kernel_rfl) (by kernel_rfl) (by kernel_rfl) (by kernel_rfl) (fun _ _ _ h => h) (Or.inl ⟨by rfl, ?_⟩) (by assumption) ?_
  rotate_left
  · (intro w hSw; (try dsimp only at hSw); go_simp; try with_reducible rfl)
  try simp only [Act.put, List.setIfInBounds_toArray, List.set_cons_zero, List.set_cons_succ]
  refine wpAnyX_takeD (i := 22) (some 137) (v := ?_) rfl rfl (by kernel_rfl) (by kernel_rfl) (by kernel_rfl) (by kernel_rfl) (fun _ _ _ h => h) (Or.inl ⟨by rfl, ?_⟩) (by assumption) ?_
  rotate_left
  · (intro w hSw; (try dsimp only at hSw); go_simp; try with_reducible rfl)
  try simp only [Act.put, List.setIfInBounds_toArray, List.set_cons_zero, List.set_cons_succ]
  refine wpAnyX_takeD (i := 23) (some 138) (v := ?_) rfl rfl (by kernel_rfl) (by kernel_rfl) (by kernel_rfl) (by kernel_rfl) (fun _ _ _ h => h) (Or.inl ⟨by rfl, ?_⟩) (by assumption) ?_
  rotate_left
  · (intro w hSw; (try dsimp only at hSw); go_simp; try with_reducible rfl)
  try simp only [Act.put, List.setIfInBounds_toArray, List.set_cons_zero, List.set_cons_succ]
  rw [← HA2.out]
  refine wpAnyX_ready (rs := [2]) (by kernel_rfl) (by simp) ?_
  refine AllReadyX.cons (o := _) rfl (fun K hK => ?_) AllReadyX.nil
  go_simp
  first | refine ct_gen (fun y1 hy1 => ?_) | refine ct_gend (fun y1 hy1 => ?_)
  have hby : Below wN.heap.size wN y1 := by rw [hy1]; first | exact bel_a (bel_d (Below.refl _ _)) _ | exact bel_d (bel_a (Below.refl _ _) _)
  have HO0 : Hid (y1.ownsRow wN.heap.size 37 9 (.slice (some ⟨wN.heap.size, 0, none⟩) 0 0) 0 []) := Lib.hid (by rw [hy1]; first | exact own_lit9 wN _ _ rfl | exact own_lit9 wN.drew _ _ rfl)
  clear hy1
  have HB1 := Lib.hid hby
  refine hK.out _ _ (KS.out _ (HTN.out.blk.below hby)) (fun hHeld => ?_)
  clear hK K
  try simp only [Act.put, List.setIfInBounds_toArray, List.set_cons_zero, List.set_cons_succ]
  refine wpAnyX_ready (rs := [11]) (by kernel_rfl) (by simp) ?_
  refine AllReadyX.cons (o := _) rfl (fun K hK => ?_) AllReadyX.nil
  refine step_app9 (by rfl) (.tmp 117) (.tmp 125) 45 (by rfl) wN HB1.out 37 _ 9 96 Try.underlying45 info_tcp rfl (by decide) (.slice (some ⟨wN.heap.size, 0, none⟩) 0 0) 0 [] (by rfl) HO0.out (some ⟨b, 0, none⟩) i _ (segCells (z.l0.take i)) (by rfl) (HR1.out.below HB1.out) (one_segs _) (by unfold maxLen; omega) (by omega) ?_
  intro A3 k3 y2 hown2 hby2 _ _
  rw [List.nil_append, Nat.zero_add] at hown2
  rw [Nat.zero_add]
  have HO2 := Lib.hid hown2
  have HB2 := Lib.hid hby2
  clear hown2 hby2 hby HO0 HB1
  refine hK.out _ _ (KS.out _ (HTN.out.blk.below HB2.out)) (fun hHeld => ?_)
  clear hK K
  try simp only [Act.put, List.setIfInBounds_toArray, List.set_cons_zero, List.set_cons_succ]
  refine wpAnyX_ready (rs := [21]) (by kernel_rfl) (by simp) ?_
  refine AllReadyX.cons (o := _) rfl (fun K hK => ?_) AllReadyX.nil
  refine step_app9 (by rfl) (.tmp 126) (.tmp 135) 45 (by rfl) wN HB2.out 37 _ 9 96 Try.underlying45 info_tcp rfl (by decide) (.slice A3 i k3) i (segCells (z.l0.take i)) (by rfl) HO2.out A2 (z.n0 - (i + 1)) (z.c0 - (i + 1)) (segCells (z.l0.drop (i + 1))) (by rfl) (HR2.out.below HB2.out) (one_segs _) (by unfold maxLen; omega) (by omega) ?_
  intro A4 k4 y3 hown3 hby3 _ _
  rw [← segCells_app, ← List.eraseIdx_eq_take_drop_succ] at hown3
  rw [show i + (z.n0 - (i + 1)) = z.n0 - 1 by omega] at hown3
  rw [show i + (z.n0 - (i + 1)) = z.n0 - 1 by omega]
  have HO3 := Lib.hid hown3
  have HB3 := Lib.hid hby3
  clear hown3 hby3 HO2 HB2
  refine hK.out _ _ (KS.out _ (HTN.out.blk.below HB3.out)) (fun hHeld => ?_)
  clear hK K
  try simp only [Act.put, List.setIfInBounds_toArray, List.set_cons_zero, List.set_cons_succ]
  refine wpAnyX_takeD (i := 24) (some 139) (v := ?_) rfl rfl (by kernel_rfl) (by kernel_rfl) (by kernel_rfl) (by kernel_rfl) (fun _ _ _ h => h) (Or.inl ⟨by rfl, ?_⟩) (by assumption) ?_
  rotate_left
  · (intro w hSw; (try dsimp only at hSw); go_simp; try with_reducible rfl)
  try simp only [Act.put, List.setIfInBounds_toArray, List.set_cons_zero, List.set_cons_succ]
  refine wpAnyX_ready (rs := [25]) (by kernel_rfl) (by simp) ?_
  refine AllReadyX.last (o := _) rfl (by kernel_rfl) (fun K hK => ?_)
  rw [if_pos (by rfl)]
  refine wp_stF 45 _ _ 22 (.slice A4 (z.n0 - 1) k4) rfl (by rfl) (by rfl) (by rfl) (HTN.out.blk.below HB3.out) (by simp) (by kernel_rfl) rfl ?_
  intro w6 B6 h6
  refine hK.out _ _ ?_
  clear hK K
  try simp only [Act.put, List.setIfInBounds_toArray, List.set_cons_zero, List.set_cons_succ]
  refine wpAnyX_done (by kernel_rfl) ?_ _
  have HT6 := Lib.hid (HTN.out.way0 (grown_none HB3.out) (HTN.out.bel.trans (HB3.out.mono HTN.out.bel.size)) (own_weak HO3.out HTN.out.bel.size) (fun x hx => HTN.out.t0 x (List.mem_of_mem_eraseIdx hx)) (.inr fun x hx => (HO3.out.lt x hx).1) h6 (BlkV.fit B6 rfl))
  have HK6 := Lib.hid (show ∀ (T : TypeId) (x : Nat) (l : List Value), x ≠ g → BlkV wN x T l → BlkV w6 x T l from fun T x l hx hb => (hb.below HB3.out).only h6 hx)
  have HTO6 := Lib.hid (show ∀ x, OwnT wN w0.heap.size x → OwnT w6 w0.heap.size x from fun x hx => OwnS.st (OwnS.below hx HB3.out) (HTN.out.blk.below HB3.out) h6 (by decide))
  have HS6 := Lib.hid (show wN.heap.size ≤ w6.heap.size by rw [h6.size]; exact HB3.out.size)
  clear HO3 HB3 B6 h6 KS HR1 HR2 HROW hHeld
  have BN6 := HK6.out _ _ _ (by have := HGW.out; have := HLE.out; omega) BN
  have d0 := cellF (HK6.out _ _ _ (by have := HGW.out; omega) DN) 0 rfl
  obtain ⟨o, ho⟩ : ∃ o, o = Pb.hearC z.P1.con t.con := ⟨_, rfl⟩
  have HO := Lib.hid ho
  have HTT := Lib.hid (HTN.out.t0 t (List.mem_of_getElem? HCT.out))
  have HT6t := Lib.hid (show OwnT w6 w0.heap.size t from HTO6.out t HTT.out)
  have HH : Hid (∀ x, Below w6.heap.size w6 x → Calls Try.prog 14 #[.agg #[.int .i64 z.P1.st, .int .i64 z.P1.port, .int .i64 z.P1.to, .int .u32 z.P1.fi, .int .u32 z.P1.un, .int .u32 z.P1.ne, .int .u32 z.P1.wa, .int .i64 z.P1.wi, .int .i64 z.P1.ot, .slice z.P1.d.A z.P1.d.n z.P1.d.c, .slice z.P1.g.A z.P1.g.n z.P1.g.c], .agg #[.int .i64 t.sp, .int .i64 t.dp, .int .u32 t.sq, .int .u32 t.ak, .int .i64 t.fl, .int .i64 t.wi, .int .i64 t.ur, .slice t.Ao t.no t.co, .slice t.Ab t.nb t.cb]] x (PtR x.heap.size o x)) := Lib.hid fun x hx => by
    rw [ho]
    have ot := OwnS.below HT6t.out hx
    exact pHearG_spec z.P1 t x w0.heap.size (OwnP.below HT6.out.o1 hx) HI.out ot.rd ot.isb ot.le (own_cap ot.own) HF.out HTK.out
  have KS : Hid (∀ w' : World, Below w6.heap.size w6 w' → (w'.cell? ⟨g, 11, none⟩ = some (.int .i64 z.P1.st) ∧ w'.cell? ⟨g, 12, none⟩ = some (.int .i64 z.P1.port) ∧ w'.cell? ⟨g, 13, none⟩ = some (.int .i64 z.P1.to) ∧ w'.cell? ⟨g, 14, none⟩ = some (.int .u32 z.P1.fi) ∧ w'.cell? ⟨g, 15, none⟩ = some (.int .u32 z.P1.un) ∧ w'.cell? ⟨g, 16, none⟩ = some (.int .u32 z.P1.ne) ∧ w'.cell? ⟨g, 17, none⟩ = some (.int .u32 z.P1.wa) ∧ w'.cell? ⟨g, 18, none⟩ = some (.int .i64 z.P1.wi) ∧ w'.cell? ⟨g, 19, none⟩ = some (.int .i64 z.P1.ot) ∧ w'.cell? ⟨g, 20, none⟩ = some (.slice z.P1.d.A z.P1.d.n z.P1.d.c) ∧ w'.cell? ⟨g, 21, none⟩ = some (.slice z.P1.g.A z.P1.g.n z.P1.g.c) ∧ w'.cell? ⟨V.heap.size, 0, none⟩ = some (.int .i64 t.sp) ∧ w'.cell? ⟨V.heap.size, 1, none⟩ = some (.int .i64 t.dp) ∧ w'.cell? ⟨V.heap.size, 2, none⟩ = some (.int .u32 t.sq) ∧ w'.cell? ⟨V.heap.size, 3, none⟩ = some (.int .u32 t.ak) ∧ w'.cell? ⟨V.heap.size, 4, none⟩ = some (.int .i64 t.fl) ∧ w'.cell? ⟨V.heap.size, 5, none⟩ = some (.int .i64 t.wi) ∧ w'.cell? ⟨V.heap.size, 6, none⟩ = some (.int .i64 t.ur) ∧ w'.cell? ⟨V.heap.size, 7, none⟩ = some (.slice t.Ao t.no t.co) ∧ w'.cell? ⟨V.heap.size, 8, none⟩ = some (.slice t.Ab t.nb t.cb))) := Lib.hid fun w' h => by
    have c : BlkV w' g 48 [.int .i64 z.P0.st, .int .i64 z.P0.port, .int .i64 z.P0.to, .int .u32 z.P0.fi, .int .u32 z.P0.un, .int .u32 z.P0.ne, .int .u32 z.P0.wa, .int .i64 z.P0.wi, .int .i64 z.P0.ot, .slice z.P0.d.A z.P0.d.n z.P0.d.c, .slice z.P0.g.A z.P0.g.n z.P0.g.c, .int .i64 z.P1.st, .int .i64 z.P1.port, .int .i64 z.P1.to, .int .u32 z.P1.fi, .int .u32 z.P1.un, .int .u32 z.P1.ne, .int .u32 z.P1.wa, .int .i64 z.P1.wi, .int .i64 z.P1.ot, .slice z.P1.d.A z.P1.d.n z.P1.d.c, .slice z.P1.g.A z.P1.g.n z.P1.g.c, .slice A4 (z.n0 - 1) k4, .slice z.A1 z.n1 z.c1] := BlkV.fit (HT6.out.blk.below h) rfl
    have d := BN6.below h
    exact ⟨c.cell rfl, c.cell rfl, c.cell rfl, c.cell rfl, c.cell rfl, c.cell rfl, c.cell rfl, c.cell rfl, c.cell rfl, c.cell rfl, c.cell rfl, d.cell rfl, d.cell rfl, d.cell rfl, d.cell rfl, d.cell rfl, d.cell rfl, d.cell rfl, d.cell rfl, d.cell rfl⟩
  have hn0 : Below w6.heap.size w6 w6.drew := bel_d (Below.refl _ _)
  have HG6 := Lib.hid (HT6.out.blk.lt)
  have hwa : IntKind.i64.wrap 1 = 1 := IntWalk.i64_in _ (by omega)
  have hwb : IntKind.i64.wrap 0 = 0 := IntWalk.i64_in _ (by omega)
  clear ho HTT BN DN HTN HK6
  go_upto_region 19 with (fail)
  go_cut [12, 13, 14] (fun s12 s13 s14 wx => ∃ (g12 g13 : Nat) (p : Peer.P) (t5 : Tcp.T), s12 = .pointer (some ⟨g12, 0, none⟩) ∧ s13 = .pointer (some ⟨g13, 0, none⟩) ∧ s14 = .bool o.2.isSome ∧ Below w6.heap.size w6 wx ∧ w6.heap.size ≤ g12 ∧ w6.heap.size ≤ g13 ∧ BlkV wx g12 26 [.int .i64 p.st, .int .i64 p.port, .int .i64 p.to, .int .u32 p.fi, .int .u32 p.un, .int .u32 p.ne, .int .u32 p.wa, .int .i64 p.wi, .int .i64 p.ot, .slice p.d.A p.d.n p.d.c, .slice p.g.A p.g.n p.g.c] ∧ BlkV wx g13 37 [.int .i64 t5.sp, .int .i64 t5.dp, .int .u32 t5.sq, .int .u32 t5.ak, .int .i64 t5.fl, .int .i64 t5.wi, .int .i64 t5.ur, .slice t5.Ao t5.no t5.co, .slice t5.Ab t5.nb t5.cb] ∧ Hid (OwnP wx w0.heap.size p) ∧ Hid (OwnT wx w0.heap.size t5) ∧ Hid (p.con = o.1) ∧ Hid (t5.con = o.2.getD Pb.zero))
  case first =>
    refine wp_region_held_drew (S := fun w' => (w'.cell? ⟨g, 11, none⟩ = some (.int .i64 z.P1.st) ∧ w'.cell? ⟨g, 12, none⟩ = some (.int .i64 z.P1.port) ∧ w'.cell? ⟨g, 13, none⟩ = some (.int .i64 z.P1.to) ∧ w'.cell? ⟨g, 14, none⟩ = some (.int .u32 z.P1.fi) ∧ w'.cell? ⟨g, 15, none⟩ = some (.int .u32 z.P1.un) ∧ w'.cell? ⟨g, 16, none⟩ = some (.int .u32 z.P1.ne) ∧ w'.cell? ⟨g, 17, none⟩ = some (.int .u32 z.P1.wa) ∧ w'.cell? ⟨g, 18, none⟩ = some (.int .i64 z.P1.wi) ∧ w'.cell? ⟨g, 19, none⟩ = some (.int .i64 z.P1.ot) ∧ w'.cell? ⟨g, 20, none⟩ = some (.slice z.P1.d.A z.P1.d.n z.P1.d.c) ∧ w'.cell? ⟨g, 21, none⟩ = some (.slice z.P1.g.A z.P1.g.n z.P1.g.c) ∧ w'.cell? ⟨V.heap.size, 0, none⟩ = some (.int .i64 t.sp) ∧ w'.cell? ⟨V.heap.size, 1, none⟩ = some (.int .i64 t.dp) ∧ w'.cell? ⟨V.heap.size, 2, none⟩ = some (.int .u32 t.sq) ∧ w'.cell? ⟨V.heap.size, 3, none⟩ = some (.int .u32 t.ak) ∧ w'.cell? ⟨V.heap.size, 4, none⟩ = some (.int .i64 t.fl) ∧ w'.cell? ⟨V.heap.size, 5, none⟩ = some (.int .i64 t.wi) ∧ w'.cell? ⟨V.heap.size, 6, none⟩ = some (.int .i64 t.ur) ∧ w'.cell? ⟨V.heap.size, 7, none⟩ = some (.slice t.Ao t.no t.co) ∧ w'.cell? ⟨V.heap.size, 8, none⟩ = some (.slice t.Ab t.nb t.cb))) (by kernel_rfl) (KS.out _ hn0) (fun hHeld => ?_)
    refine wpAnyH_takeD (i := 0) (some 145) (v := ?_) rfl rfl (by kernel_rfl) (by kernel_rfl) (by kernel_rfl) (fun _ _ _ h => h) (Or.inl ⟨by rfl, ?_⟩) (by assumption) ?_
    rotate_left
    · (intro w hSw; (try dsimp only at hSw); go_simp; try with_reducible rfl)
    try simp only [Act.put, List.setIfInBounds_toArray, List.set_cons_zero, List.set_cons_succ]
    refine wpAnyH_takeD (i := 1) (some 146) (v := ?_) rfl rfl (by kernel_rfl) (by kernel_rfl) (by kernel_rfl) (fun _ _ _ h => h) (Or.inl ⟨by rfl, ?_⟩) (by assumption) ?_
    rotate_left
    · (intro w hSw; (try dsimp only at hSw); go_simp; try with_reducible rfl)
    try simp only [Act.put, List.setIfInBounds_toArray, List.set_cons_zero, List.set_cons_succ]
    refine wpAnyH_takeD (i := 2) (some 147) (v := ?_) rfl rfl (by kernel_rfl) (by kernel_rfl) (by kernel_rfl) (fun _ _ _ h => h) (Or.inl ⟨by rfl, ?_⟩) (by assumption) ?_
    rotate_left
    · (intro w hSw; (try dsimp only at hSw); go_simp; try with_reducible rfl)
    try simp only [Act.put, List.setIfInBounds_toArray, List.set_cons_zero, List.set_cons_succ]
    refine wpAnyH_takeD (i := 3) (some 148) (v := ?_) rfl rfl (by kernel_rfl) (by kernel_rfl) (by kernel_rfl) (fun _ _ _ h => h) (Or.inl ⟨by rfl, ?_⟩) (by assumption) ?_
    rotate_left
    · (intro w hSw; (try dsimp only at hSw); go_simp; try with_reducible rfl)
    try simp only [Act.put, List.setIfInBounds_toArray, List.set_cons_zero, List.set_cons_succ]
    refine wpAnyH_takeD (i := 4) (some 149) (v := ?_) rfl rfl (by kernel_rfl) (by kernel_rfl) (by kernel_rfl) (fun _ _ _ h => h) (Or.inl ⟨by rfl, ?_⟩) (by assumption) ?_
    rotate_left
    · (intro w hSw; (try dsimp only at hSw); go_simp; try with_reducible rfl)
    try simp only [Act.put, List.setIfInBounds_toArray, List.set_cons_zero, List.set_cons_succ]
    refine wpAnyH_takeD (i := 5) (some 150) (v := ?_) rfl rfl (by kernel_rfl) (by kernel_rfl) (by kernel_rfl) (fun _ _ _ h => h) (Or.inl ⟨by rfl, ?_⟩) (by assumption) ?_
    rotate_left
    · (intro w hSw; (try dsimp only at hSw); go_simp; try with_reducible rfl)
    try simp only [Act.put, List.setIfInBounds_toArray, List.set_cons_zero, List.set_cons_succ]
    refine wpAnyH_takeD (i := 6) (some 151) (v := ?_) rfl rfl (by kernel_rfl) (by kernel_rfl) (by kernel_rfl) (fun _ _ _ h => h) (Or.inl ⟨by rfl, ?_⟩) (by assumption) ?_
    rotate_left
    · (intro w hSw; (try dsimp only at hSw); go_simp; try with_reducible rfl)
    try simp only [Act.put, List.setIfInBounds_toArray, List.set_cons_zero, List.set_cons_succ]
    refine wpAnyH_takeD (i := 7) (some 152) (v := ?_) rfl rfl (by kernel_rfl) (by kernel_rfl) (by kernel_rfl) (fun _ _ _ h => h) (Or.inl ⟨by rfl, ?_⟩) (by assumption) ?_
    rotate_left
    · (intro w hSw; (try dsimp only at hSw); go_simp; try with_reducible rfl)
    try simp only [Act.put, List.setIfInBounds_toArray, List.set_cons_zero, List.set_cons_succ]
    refine wpAnyH_ready (rs := [8, 13, 14]) (by kernel_rfl) (by simp) ?_
    refine (AllReadyH.cons (o := _) rfl (fun K hK => ?_) (AllReadyH.cons (o := _) rfl (fun K hK => ?_) (AllReadyH.cons (o := _) rfl (fun K hK => ?_) AllReadyH.nil)))
    · skip
      go_simp
      refine (HH.out _ hn0).mono ?_
      rintro e y1 ⟨hx, p, t5, rfl, hp, ht5, hpc, htc⟩
      have hy : Below (w6.drew).heap.size (w6.drew) y1 := hx
      have hn1 := bel_then hn0 hy
      have HPC := Lib.hid (OwnP.weak hp (Nat.le_trans HT6.out.bel.size (hn0).size))
      have HTC := Lib.hid (OwnS.weak ht5 (Nat.le_trans HT6.out.bel.size (hn0).size))
      have HC1 := Lib.hid hpc
      have HC2 := Lib.hid htc
      clear hx hy hp ht5 hpc htc
      go_wp2_with fail
      refine hK.out _ _ (KS.out _ hn1) (fun hHeld => ?_)
      clear hK K
      try simp only [Act.put, List.setIfInBounds_toArray, List.set_cons_zero, List.set_cons_succ]
      refine wpAnyH_takeD (i := 9) (some 144) (v := ?_) rfl rfl (by kernel_rfl) (by kernel_rfl) (by kernel_rfl) (fun _ _ _ h => h) (Or.inl ⟨by rfl, ?_⟩) (by assumption) ?_
      rotate_left
      · (intro w hSw; (try dsimp only at hSw); go_simp; try with_reducible rfl)
      try simp only [Act.put, List.setIfInBounds_toArray, List.set_cons_zero, List.set_cons_succ]
      refine wpAnyH_takeD (i := 10) (some 154) (v := ?_) rfl rfl (by kernel_rfl) (by kernel_rfl) (by kernel_rfl) (fun _ _ _ h => h) (Or.inl ⟨by rfl, ?_⟩) (by assumption) ?_
      rotate_left
      · (intro w hSw; (try dsimp only at hSw); go_simp; try with_reducible rfl)
      try simp only [Act.put, List.setIfInBounds_toArray, List.set_cons_zero, List.set_cons_succ]
      refine wpAnyH_takeD (i := 11) (some 155) (v := ?_) rfl rfl (by kernel_rfl) (by kernel_rfl) (by kernel_rfl) (fun _ _ _ h => h) (Or.inl ⟨by rfl, ?_⟩) (by assumption) ?_
      rotate_left
      · (intro w hSw; (try dsimp only at hSw); go_simp; try with_reducible rfl)
      try simp only [Act.put, List.setIfInBounds_toArray, List.set_cons_zero, List.set_cons_succ]
      refine wpAnyH_takeD (i := 12) (some 156) (v := ?_) rfl rfl (by kernel_rfl) (by kernel_rfl) (by kernel_rfl) (fun _ _ _ h => h) (Or.inl ⟨by rfl, ?_⟩) (by assumption) ?_
      rotate_left
      · (intro w hSw; (try dsimp only at hSw); go_simp; try with_reducible rfl)
      try simp only [Act.put, List.setIfInBounds_toArray, List.set_cons_zero, List.set_cons_succ]
      refine wpAnyH_ready (rs := [13, 14]) (by kernel_rfl) (by simp) ?_
      refine (AllReadyH.cons (o := _) rfl (fun K hK => ?_) (AllReadyH.cons (o := _) rfl (fun K hK => ?_) AllReadyH.nil))
      · skip
        go_simp
        first | refine ct_gen (fun y2 hx => ?_) | refine ct_gend (fun y2 hx => ?_)
        have hy : Below (y1).heap.size (y1) y2 := by rw [hx]; first | exact bel_a (Below.refl _ _) _ | exact bel_a (bel_d (Below.refl _ _)) _ | exact bel_d (bel_a (Below.refl _ _) _)
        obtain ⟨gp, hg⟩ : ∃ g, g = (y1).heap.size := ⟨_, rfl⟩
        have GA : Hid (BlkV y2 gp 26 [.int .i64 0, .int .i64 0, .int .i64 0, .int .u32 0, .int .u32 0, .int .u32 0, .int .u32 0, .int .i64 0, .int .i64 0, .slice none 0 0, .slice none 0 0]) := Lib.hid (by rw [hx, hg]; first | exact BlkV.new_at _ _ _ rfl | exact BlkV.drewN (BlkV.new_at _ _ _ rfl) 1)
        have LA := Lib.hid (show w6.heap.size ≤ gp by rw [hg]; exact (hn1).size)
        rw [← hg]
        clear hx hg
        have hn2 := bel_then hn1 hy
        have HPC := Lib.hid (HPC.out.below hy)
        have HTC := Lib.hid (OwnS.below HTC.out hy)
        clear hy
        refine hK.out _ _ (KS.out _ hn2) (fun hHeld => ?_)
        clear hK K
        try simp only [Act.put, List.setIfInBounds_toArray, List.set_cons_zero, List.set_cons_succ]
        refine wpAnyH_ready (rs := [14]) (by kernel_rfl) (by simp) ?_
        refine (AllReadyH.cons (o := _) rfl (fun K hK => ?_) AllReadyH.nil)
        · skip
          go_simp
          first | refine ct_gen (fun y3 hx => ?_) | refine ct_gend (fun y3 hx => ?_)
          have hy : Below (y2).heap.size (y2) y3 := by rw [hx]; first | exact bel_a (Below.refl _ _) _ | exact bel_a (bel_d (Below.refl _ _)) _ | exact bel_d (bel_a (Below.refl _ _) _)
          obtain ⟨gz, hg⟩ : ∃ g, g = (y2).heap.size := ⟨_, rfl⟩
          have GB : Hid (BlkV y3 gz 37 [.int .i64 0, .int .i64 0, .int .u32 0, .int .u32 0, .int .i64 0, .int .i64 0, .int .i64 0, .slice none 0 0, .slice none 0 0]) := Lib.hid (by rw [hx, hg]; first | exact BlkV.new_at _ _ _ rfl | exact BlkV.drewN (BlkV.new_at _ _ _ rfl) 1)
          have LB := Lib.hid (show w6.heap.size ≤ gz by rw [hg]; exact (hn2).size)
          have NE := Lib.hid (show gp ≠ gz by have := GA.out.lt; omega)
          rw [← hg]
          clear hx hg
          have hn3 := bel_then hn2 hy
          have HPC := Lib.hid (HPC.out.below hy)
          have HTC := Lib.hid (OwnS.below HTC.out hy)
          have GA := Lib.hid (BlkV.below GA.out hy)
          clear hy
          refine hK.out _ _ (KS.out _ hn3) (fun hHeld => ?_)
          clear hK K
          try simp only [Act.put, List.setIfInBounds_toArray, List.set_cons_zero, List.set_cons_succ]
          refine wpAnyH_ready (rs := [15]) (by kernel_rfl) (by simp) ?_
          refine AllReadyH.cons (o := _) rfl (fun K hK => ?_) AllReadyH.nil
          rw [if_pos (by rfl)]
          refine wp_stB 26 _ _ rfl (by rfl) (by rfl) _ (by rfl) (show BlkV y3 gp 26 [.int .i64 0, .int .i64 0, .int .i64 0, .int .u32 0, .int .u32 0, .int .u32 0, .int .u32 0, .int .i64 0, .int .i64 0, .slice none 0 0, .slice none 0 0] from GA.out) (by rfl) (peer_size (by rfl)) (by rfl) ?_
          intro z8 Z8 O8
          have q9 : BlkV z8 gz 37 [.int .i64 0, .int .i64 0, .int .u32 0, .int .u32 0, .int .i64 0, .int .i64 0, .int .i64 0, .slice none 0 0, .slice none 0 0] := BlkV.only (show BlkV y3 gz 37 [.int .i64 0, .int .i64 0, .int .u32 0, .int .u32 0, .int .i64 0, .int .i64 0, .int .i64 0, .slice none 0 0, .slice none 0 0] from GB.out) O8 (fun h => NE.out h.symm)
          have hz8 := O8.bel LA.out hn3
          have HP8 := Lib.hid (OwnP.st HPC.out (show BlkV y3 gp 26 [.int .i64 0, .int .i64 0, .int .i64 0, .int .u32 0, .int .u32 0, .int .u32 0, .int .u32 0, .int .i64 0, .int .i64 0, .slice none 0 0, .slice none 0 0] from GA.out) O8 (by decide))
          have HT8 := Lib.hid (OwnS.st HTC.out (show BlkV y3 gp 26 [.int .i64 0, .int .i64 0, .int .i64 0, .int .u32 0, .int .u32 0, .int .u32 0, .int .u32 0, .int .i64 0, .int .i64 0, .slice none 0 0, .slice none 0 0] from GA.out) O8 (by decide))
          clear O8
          refine hK.out _ _ (KS.out _ hz8) (fun hHeld => ?_)
          clear hK K
          try simp only [Act.put, List.setIfInBounds_toArray, List.set_cons_zero, List.set_cons_succ]
          refine wpAnyH_ready (rs := [16]) (by kernel_rfl) (by simp) ?_
          refine AllReadyH.cons (o := _) rfl (fun K hK => ?_) AllReadyH.nil
          rw [if_pos (by rfl)]
          refine wp_stB 37 _ _ rfl (by rfl) (by rfl) _ (by rfl) q9 (by rfl) (tcp_size (by rfl)) (by rfl) ?_
          intro z9 Z9 O9
          have Z8' := BlkV.only (show BlkV z8 gp 26 _ from Z8) O9 NE.out
          have hz9 := O9.bel LB.out hz8
          have HP9 := Lib.hid (OwnP.st HP8.out q9 O9 (by decide))
          have HT9 := Lib.hid (OwnS.st HT8.out q9 O9 (by decide))
          have Z8h := Lib.hid Z8'
          have Z9h := Lib.hid Z9
          clear q9 O9 Z8 Z8' Z9 hz8
          refine hK.out _ _ (KS.out _ hz9) (fun hHeld => ?_)
          clear hK K
          try simp only [Act.put, List.setIfInBounds_toArray, List.set_cons_zero, List.set_cons_succ]
          refine wpAnyH_takeD (i := 17) (some 14) (v := ?_) rfl rfl (by kernel_rfl) (by kernel_rfl) (by kernel_rfl) (fun _ _ _ h => h) (Or.inl ⟨by rfl, ?_⟩) (by assumption) ?_
          rotate_left
          · (intro w hSw; (try dsimp only at hSw); go_simp; try with_reducible rfl)
          try simp only [Act.put, List.setIfInBounds_toArray, List.set_cons_zero, List.set_cons_succ]
          refine wpAnyH_done (by kernel_rfl) ?_ _
          go_wp2_with fail
          go_meet
          exact ⟨gp, gz, p, t5, rfl, rfl, rfl, hz9, LA.out, LB.out, Z8h.out, Z9h.out, HP9, HT9, HC1, HC2⟩
      · skip
        go_simp
        first | refine ct_gen (fun y2 hx => ?_) | refine ct_gend (fun y2 hx => ?_)
        have hy : Below (y1).heap.size (y1) y2 := by rw [hx]; first | exact bel_a (Below.refl _ _) _ | exact bel_a (bel_d (Below.refl _ _)) _ | exact bel_d (bel_a (Below.refl _ _) _)
        obtain ⟨gz, hg⟩ : ∃ g, g = (y1).heap.size := ⟨_, rfl⟩
        have GB : Hid (BlkV y2 gz 37 [.int .i64 0, .int .i64 0, .int .u32 0, .int .u32 0, .int .i64 0, .int .i64 0, .int .i64 0, .slice none 0 0, .slice none 0 0]) := Lib.hid (by rw [hx, hg]; first | exact BlkV.new_at _ _ _ rfl | exact BlkV.drewN (BlkV.new_at _ _ _ rfl) 1)
        have LB := Lib.hid (show w6.heap.size ≤ gz by rw [hg]; exact (hn1).size)
        rw [← hg]
        clear hx hg
        have hn2 := bel_then hn1 hy
        have HPC := Lib.hid (HPC.out.below hy)
        have HTC := Lib.hid (OwnS.below HTC.out hy)
        clear hy
        refine hK.out _ _ (KS.out _ hn2) (fun hHeld => ?_)
        clear hK K
        try simp only [Act.put, List.setIfInBounds_toArray, List.set_cons_zero, List.set_cons_succ]
        refine wpAnyH_ready (rs := [13]) (by kernel_rfl) (by simp) ?_
        refine (AllReadyH.cons (o := _) rfl (fun K hK => ?_) AllReadyH.nil)
        · skip
          go_simp
          first | refine ct_gen (fun y3 hx => ?_) | refine ct_gend (fun y3 hx => ?_)
          have hy : Below (y2).heap.size (y2) y3 := by rw [hx]; first | exact bel_a (Below.refl _ _) _ | exact bel_a (bel_d (Below.refl _ _)) _ | exact bel_d (bel_a (Below.refl _ _) _)
          obtain ⟨gp, hg⟩ : ∃ g, g = (y2).heap.size := ⟨_, rfl⟩
          have GA : Hid (BlkV y3 gp 26 [.int .i64 0, .int .i64 0, .int .i64 0, .int .u32 0, .int .u32 0, .int .u32 0, .int .u32 0, .int .i64 0, .int .i64 0, .slice none 0 0, .slice none 0 0]) := Lib.hid (by rw [hx, hg]; first | exact BlkV.new_at _ _ _ rfl | exact BlkV.drewN (BlkV.new_at _ _ _ rfl) 1)
          have LA := Lib.hid (show w6.heap.size ≤ gp by rw [hg]; exact (hn2).size)
          have NE := Lib.hid (show gp ≠ gz by have := GB.out.lt; omega)
          rw [← hg]
          clear hx hg
          have hn3 := bel_then hn2 hy
          have HPC := Lib.hid (HPC.out.below hy)
          have HTC := Lib.hid (OwnS.below HTC.out hy)
          have GB := Lib.hid (BlkV.below GB.out hy)
          clear hy
          refine hK.out _ _ (KS.out _ hn3) (fun hHeld => ?_)
          clear hK K
          try simp only [Act.put, List.setIfInBounds_toArray, List.set_cons_zero, List.set_cons_succ]
          refine wpAnyH_ready (rs := [15]) (by kernel_rfl) (by simp) ?_
          refine AllReadyH.cons (o := _) rfl (fun K hK => ?_) AllReadyH.nil
          rw [if_pos (by rfl)]
          refine wp_stB 26 _ _ rfl (by rfl) (by rfl) _ (by rfl) (show BlkV y3 gp 26 [.int .i64 0, .int .i64 0, .int .i64 0, .int .u32 0, .int .u32 0, .int .u32 0, .int .u32 0, .int .i64 0, .int .i64 0, .slice none 0 0, .slice none 0 0] from GA.out) (by rfl) (peer_size (by rfl)) (by rfl) ?_
          intro z8 Z8 O8
          have q9 : BlkV z8 gz 37 [.int .i64 0, .int .i64 0, .int .u32 0, .int .u32 0, .int .i64 0, .int .i64 0, .int .i64 0, .slice none 0 0, .slice none 0 0] := BlkV.only (show BlkV y3 gz 37 [.int .i64 0, .int .i64 0, .int .u32 0, .int .u32 0, .int .i64 0, .int .i64 0, .int .i64 0, .slice none 0 0, .slice none 0 0] from GB.out) O8 (fun h => NE.out h.symm)
          have hz8 := O8.bel LA.out hn3
          have HP8 := Lib.hid (OwnP.st HPC.out (show BlkV y3 gp 26 [.int .i64 0, .int .i64 0, .int .i64 0, .int .u32 0, .int .u32 0, .int .u32 0, .int .u32 0, .int .i64 0, .int .i64 0, .slice none 0 0, .slice none 0 0] from GA.out) O8 (by decide))
          have HT8 := Lib.hid (OwnS.st HTC.out (show BlkV y3 gp 26 [.int .i64 0, .int .i64 0, .int .i64 0, .int .u32 0, .int .u32 0, .int .u32 0, .int .u32 0, .int .i64 0, .int .i64 0, .slice none 0 0, .slice none 0 0] from GA.out) O8 (by decide))
          clear O8
          refine hK.out _ _ (KS.out _ hz8) (fun hHeld => ?_)
          clear hK K
          try simp only [Act.put, List.setIfInBounds_toArray, List.set_cons_zero, List.set_cons_succ]
          refine wpAnyH_ready (rs := [16]) (by kernel_rfl) (by simp) ?_
          refine AllReadyH.cons (o := _) rfl (fun K hK => ?_) AllReadyH.nil
          rw [if_pos (by rfl)]
          refine wp_stB 37 _ _ rfl (by rfl) (by rfl) _ (by rfl) q9 (by rfl) (tcp_size (by rfl)) (by rfl) ?_
          intro z9 Z9 O9
          have Z8' := BlkV.only (show BlkV z8 gp 26 _ from Z8) O9 NE.out
          have hz9 := O9.bel LB.out hz8
          have HP9 := Lib.hid (OwnP.st HP8.out q9 O9 (by decide))
          have HT9 := Lib.hid (OwnS.st HT8.out q9 O9 (by decide))
          have Z8h := Lib.hid Z8'
          have Z9h := Lib.hid Z9
          clear q9 O9 Z8 Z8' Z9 hz8
          refine hK.out _ _ (KS.out _ hz9) (fun hHeld => ?_)
          clear hK K
          try simp only [Act.put, List.setIfInBounds_toArray, List.set_cons_zero, List.set_cons_succ]
          refine wpAnyH_takeD (i := 17) (some 14) (v := ?_) rfl rfl (by kernel_rfl) (by kernel_rfl) (by kernel_rfl) (fun _ _ _ h => h) (Or.inl ⟨by rfl, ?_⟩) (by assumption) ?_
          rotate_left
          · (intro w hSw; (try dsimp only at hSw); go_simp; try with_reducible rfl)
          try simp only [Act.put, List.setIfInBounds_toArray, List.set_cons_zero, List.set_cons_succ]
          refine wpAnyH_done (by kernel_rfl) ?_ _
          go_wp2_with fail
          go_meet
          exact ⟨gp, gz, p, t5, rfl, rfl, rfl, hz9, LA.out, LB.out, Z8h.out, Z9h.out, HP9, HT9, HC1, HC2⟩
    · skip
      go_simp
      first | refine ct_gen (fun y1 hx => ?_) | refine ct_gend (fun y1 hx => ?_)
      have hy : Below (w6.drew).heap.size (w6.drew) y1 := by rw [hx]; first | exact bel_a (Below.refl _ _) _ | exact bel_a (bel_d (Below.refl _ _)) _ | exact bel_d (bel_a (Below.refl _ _) _)
      obtain ⟨gp, hg⟩ : ∃ g, g = (w6).heap.size := ⟨_, rfl⟩
      have GA : Hid (BlkV y1 gp 26 [.int .i64 0, .int .i64 0, .int .i64 0, .int .u32 0, .int .u32 0, .int .u32 0, .int .u32 0, .int .i64 0, .int .i64 0, .slice none 0 0, .slice none 0 0]) := Lib.hid (by rw [hx, hg]; first | exact BlkV.new_at _ _ _ rfl | exact BlkV.drewN (BlkV.new_at _ _ _ rfl) 1)
      have LA := Lib.hid (show w6.heap.size ≤ gp by rw [hg]; exact (hn0).size)
      rw [← hg]
      clear hx hg
      have hn1 := bel_then hn0 hy
      clear hy
      refine hK.out _ _ (KS.out _ hn1) (fun hHeld => ?_)
      clear hK K
      try simp only [Act.put, List.setIfInBounds_toArray, List.set_cons_zero, List.set_cons_succ]
      refine wpAnyH_ready (rs := [8, 14]) (by kernel_rfl) (by simp) ?_
      refine (AllReadyH.cons (o := _) rfl (fun K hK => ?_) (AllReadyH.cons (o := _) rfl (fun K hK => ?_) AllReadyH.nil))
      · skip
        go_simp
        refine (HH.out _ hn1).mono ?_
        rintro e y2 ⟨hx, p, t5, rfl, hp, ht5, hpc, htc⟩
        have hy : Below (y1).heap.size (y1) y2 := hx
        have hn2 := bel_then hn1 hy
        have HPC := Lib.hid (OwnP.weak hp (Nat.le_trans HT6.out.bel.size (hn1).size))
        have HTC := Lib.hid (OwnS.weak ht5 (Nat.le_trans HT6.out.bel.size (hn1).size))
        have HC1 := Lib.hid hpc
        have HC2 := Lib.hid htc
        have GA := Lib.hid (BlkV.below GA.out hy)
        clear hx hy hp ht5 hpc htc
        go_wp2_with fail
        refine hK.out _ _ (KS.out _ hn2) (fun hHeld => ?_)
        clear hK K
        try simp only [Act.put, List.setIfInBounds_toArray, List.set_cons_zero, List.set_cons_succ]
        refine wpAnyH_takeD (i := 9) (some 144) (v := ?_) rfl rfl (by kernel_rfl) (by kernel_rfl) (by kernel_rfl) (fun _ _ _ h => h) (Or.inl ⟨by rfl, ?_⟩) (by assumption) ?_
        rotate_left
        · (intro w hSw; (try dsimp only at hSw); go_simp; try with_reducible rfl)
        try simp only [Act.put, List.setIfInBounds_toArray, List.set_cons_zero, List.set_cons_succ]
        refine wpAnyH_takeD (i := 10) (some 154) (v := ?_) rfl rfl (by kernel_rfl) (by kernel_rfl) (by kernel_rfl) (fun _ _ _ h => h) (Or.inl ⟨by rfl, ?_⟩) (by assumption) ?_
        rotate_left
        · (intro w hSw; (try dsimp only at hSw); go_simp; try with_reducible rfl)
        try simp only [Act.put, List.setIfInBounds_toArray, List.set_cons_zero, List.set_cons_succ]
        refine wpAnyH_takeD (i := 11) (some 155) (v := ?_) rfl rfl (by kernel_rfl) (by kernel_rfl) (by kernel_rfl) (fun _ _ _ h => h) (Or.inl ⟨by rfl, ?_⟩) (by assumption) ?_
        rotate_left
        · (intro w hSw; (try dsimp only at hSw); go_simp; try with_reducible rfl)
        try simp only [Act.put, List.setIfInBounds_toArray, List.set_cons_zero, List.set_cons_succ]
        refine wpAnyH_takeD (i := 12) (some 156) (v := ?_) rfl rfl (by kernel_rfl) (by kernel_rfl) (by kernel_rfl) (fun _ _ _ h => h) (Or.inl ⟨by rfl, ?_⟩) (by assumption) ?_
        rotate_left
        · (intro w hSw; (try dsimp only at hSw); go_simp; try with_reducible rfl)
        try simp only [Act.put, List.setIfInBounds_toArray, List.set_cons_zero, List.set_cons_succ]
        refine wpAnyH_ready (rs := [14]) (by kernel_rfl) (by simp) ?_
        refine (AllReadyH.cons (o := _) rfl (fun K hK => ?_) AllReadyH.nil)
        · skip
          go_simp
          first | refine ct_gen (fun y3 hx => ?_) | refine ct_gend (fun y3 hx => ?_)
          have hy : Below (y2).heap.size (y2) y3 := by rw [hx]; first | exact bel_a (Below.refl _ _) _ | exact bel_a (bel_d (Below.refl _ _)) _ | exact bel_d (bel_a (Below.refl _ _) _)
          obtain ⟨gz, hg⟩ : ∃ g, g = (y2).heap.size := ⟨_, rfl⟩
          have GB : Hid (BlkV y3 gz 37 [.int .i64 0, .int .i64 0, .int .u32 0, .int .u32 0, .int .i64 0, .int .i64 0, .int .i64 0, .slice none 0 0, .slice none 0 0]) := Lib.hid (by rw [hx, hg]; first | exact BlkV.new_at _ _ _ rfl | exact BlkV.drewN (BlkV.new_at _ _ _ rfl) 1)
          have LB := Lib.hid (show w6.heap.size ≤ gz by rw [hg]; exact (hn2).size)
          have NE := Lib.hid (show gp ≠ gz by have := GA.out.lt; omega)
          rw [← hg]
          clear hx hg
          have hn3 := bel_then hn2 hy
          have GA := Lib.hid (BlkV.below GA.out hy)
          have HPC := Lib.hid (HPC.out.below hy)
          have HTC := Lib.hid (OwnS.below HTC.out hy)
          clear hy
          refine hK.out _ _ (KS.out _ hn3) (fun hHeld => ?_)
          clear hK K
          try simp only [Act.put, List.setIfInBounds_toArray, List.set_cons_zero, List.set_cons_succ]
          refine wpAnyH_ready (rs := [15]) (by kernel_rfl) (by simp) ?_
          refine AllReadyH.cons (o := _) rfl (fun K hK => ?_) AllReadyH.nil
          rw [if_pos (by rfl)]
          refine wp_stB 26 _ _ rfl (by rfl) (by rfl) _ (by rfl) (show BlkV y3 gp 26 [.int .i64 0, .int .i64 0, .int .i64 0, .int .u32 0, .int .u32 0, .int .u32 0, .int .u32 0, .int .i64 0, .int .i64 0, .slice none 0 0, .slice none 0 0] from GA.out) (by rfl) (peer_size (by rfl)) (by rfl) ?_
          intro z8 Z8 O8
          have q9 : BlkV z8 gz 37 [.int .i64 0, .int .i64 0, .int .u32 0, .int .u32 0, .int .i64 0, .int .i64 0, .int .i64 0, .slice none 0 0, .slice none 0 0] := BlkV.only (show BlkV y3 gz 37 [.int .i64 0, .int .i64 0, .int .u32 0, .int .u32 0, .int .i64 0, .int .i64 0, .int .i64 0, .slice none 0 0, .slice none 0 0] from GB.out) O8 (fun h => NE.out h.symm)
          have hz8 := O8.bel LA.out hn3
          have HP8 := Lib.hid (OwnP.st HPC.out (show BlkV y3 gp 26 [.int .i64 0, .int .i64 0, .int .i64 0, .int .u32 0, .int .u32 0, .int .u32 0, .int .u32 0, .int .i64 0, .int .i64 0, .slice none 0 0, .slice none 0 0] from GA.out) O8 (by decide))
          have HT8 := Lib.hid (OwnS.st HTC.out (show BlkV y3 gp 26 [.int .i64 0, .int .i64 0, .int .i64 0, .int .u32 0, .int .u32 0, .int .u32 0, .int .u32 0, .int .i64 0, .int .i64 0, .slice none 0 0, .slice none 0 0] from GA.out) O8 (by decide))
          clear O8
          refine hK.out _ _ (KS.out _ hz8) (fun hHeld => ?_)
          clear hK K
          try simp only [Act.put, List.setIfInBounds_toArray, List.set_cons_zero, List.set_cons_succ]
          refine wpAnyH_ready (rs := [16]) (by kernel_rfl) (by simp) ?_
          refine AllReadyH.cons (o := _) rfl (fun K hK => ?_) AllReadyH.nil
          rw [if_pos (by rfl)]
          refine wp_stB 37 _ _ rfl (by rfl) (by rfl) _ (by rfl) q9 (by rfl) (tcp_size (by rfl)) (by rfl) ?_
          intro z9 Z9 O9
          have Z8' := BlkV.only (show BlkV z8 gp 26 _ from Z8) O9 NE.out
          have hz9 := O9.bel LB.out hz8
          have HP9 := Lib.hid (OwnP.st HP8.out q9 O9 (by decide))
          have HT9 := Lib.hid (OwnS.st HT8.out q9 O9 (by decide))
          have Z8h := Lib.hid Z8'
          have Z9h := Lib.hid Z9
          clear q9 O9 Z8 Z8' Z9 hz8
          refine hK.out _ _ (KS.out _ hz9) (fun hHeld => ?_)
          clear hK K
          try simp only [Act.put, List.setIfInBounds_toArray, List.set_cons_zero, List.set_cons_succ]
          refine wpAnyH_takeD (i := 17) (some 14) (v := ?_) rfl rfl (by kernel_rfl) (by kernel_rfl) (by kernel_rfl) (fun _ _ _ h => h) (Or.inl ⟨by rfl, ?_⟩) (by assumption) ?_
          rotate_left
          · (intro w hSw; (try dsimp only at hSw); go_simp; try with_reducible rfl)
          try simp only [Act.put, List.setIfInBounds_toArray, List.set_cons_zero, List.set_cons_succ]
          refine wpAnyH_done (by kernel_rfl) ?_ _
          go_wp2_with fail
          go_meet
          exact ⟨gp, gz, p, t5, rfl, rfl, rfl, hz9, LA.out, LB.out, Z8h.out, Z9h.out, HP9, HT9, HC1, HC2⟩
      · skip
        go_simp
        first | refine ct_gen (fun y2 hx => ?_) | refine ct_gend (fun y2 hx => ?_)
        have hy : Below (y1).heap.size (y1) y2 := by rw [hx]; first | exact bel_a (Below.refl _ _) _ | exact bel_a (bel_d (Below.refl _ _)) _ | exact bel_d (bel_a (Below.refl _ _) _)
        obtain ⟨gz, hg⟩ : ∃ g, g = (y1).heap.size := ⟨_, rfl⟩
        have GB : Hid (BlkV y2 gz 37 [.int .i64 0, .int .i64 0, .int .u32 0, .int .u32 0, .int .i64 0, .int .i64 0, .int .i64 0, .slice none 0 0, .slice none 0 0]) := Lib.hid (by rw [hx, hg]; first | exact BlkV.new_at _ _ _ rfl | exact BlkV.drewN (BlkV.new_at _ _ _ rfl) 1)
        have LB := Lib.hid (show w6.heap.size ≤ gz by rw [hg]; exact (hn1).size)
        have NE := Lib.hid (show gp ≠ gz by have := GA.out.lt; omega)
        rw [← hg]
        clear hx hg
        have hn2 := bel_then hn1 hy
        have GA := Lib.hid (BlkV.below GA.out hy)
        clear hy
        refine hK.out _ _ (KS.out _ hn2) (fun hHeld => ?_)
        clear hK K
        try simp only [Act.put, List.setIfInBounds_toArray, List.set_cons_zero, List.set_cons_succ]
        refine wpAnyH_ready (rs := [8]) (by kernel_rfl) (by simp) ?_
        refine (AllReadyH.cons (o := _) rfl (fun K hK => ?_) AllReadyH.nil)
        · skip
          go_simp
          refine (HH.out _ hn2).mono ?_
          rintro e y3 ⟨hx, p, t5, rfl, hp, ht5, hpc, htc⟩
          have hy : Below (y2).heap.size (y2) y3 := hx
          have hn3 := bel_then hn2 hy
          have HPC := Lib.hid (OwnP.weak hp (Nat.le_trans HT6.out.bel.size (hn2).size))
          have HTC := Lib.hid (OwnS.weak ht5 (Nat.le_trans HT6.out.bel.size (hn2).size))
          have HC1 := Lib.hid hpc
          have HC2 := Lib.hid htc
          have GA := Lib.hid (BlkV.below GA.out hy)
          have GB := Lib.hid (BlkV.below GB.out hy)
          clear hx hy hp ht5 hpc htc
          go_wp2_with fail
          refine hK.out _ _ (KS.out _ hn3) (fun hHeld => ?_)
          clear hK K
          try simp only [Act.put, List.setIfInBounds_toArray, List.set_cons_zero, List.set_cons_succ]
          refine wpAnyH_takeD (i := 9) (some 144) (v := ?_) rfl rfl (by kernel_rfl) (by kernel_rfl) (by kernel_rfl) (fun _ _ _ h => h) (Or.inl ⟨by rfl, ?_⟩) (by assumption) ?_
          rotate_left
          · (intro w hSw; (try dsimp only at hSw); go_simp; try with_reducible rfl)
          try simp only [Act.put, List.setIfInBounds_toArray, List.set_cons_zero, List.set_cons_succ]
          refine wpAnyH_takeD (i := 10) (some 154) (v := ?_) rfl rfl (by kernel_rfl) (by kernel_rfl) (by kernel_rfl) (fun _ _ _ h => h) (Or.inl ⟨by rfl, ?_⟩) (by assumption) ?_
          rotate_left
          · (intro w hSw; (try dsimp only at hSw); go_simp; try with_reducible rfl)
          try simp only [Act.put, List.setIfInBounds_toArray, List.set_cons_zero, List.set_cons_succ]
          refine wpAnyH_takeD (i := 11) (some 155) (v := ?_) rfl rfl (by kernel_rfl) (by kernel_rfl) (by kernel_rfl) (fun _ _ _ h => h) (Or.inl ⟨by rfl, ?_⟩) (by assumption) ?_
          rotate_left
          · (intro w hSw; (try dsimp only at hSw); go_simp; try with_reducible rfl)
          try simp only [Act.put, List.setIfInBounds_toArray, List.set_cons_zero, List.set_cons_succ]
          refine wpAnyH_takeD (i := 12) (some 156) (v := ?_) rfl rfl (by kernel_rfl) (by kernel_rfl) (by kernel_rfl) (fun _ _ _ h => h) (Or.inl ⟨by rfl, ?_⟩) (by assumption) ?_
          rotate_left
          · (intro w hSw; (try dsimp only at hSw); go_simp; try with_reducible rfl)
          try simp only [Act.put, List.setIfInBounds_toArray, List.set_cons_zero, List.set_cons_succ]
          refine wpAnyH_ready (rs := [15]) (by kernel_rfl) (by simp) ?_
          refine AllReadyH.cons (o := _) rfl (fun K hK => ?_) AllReadyH.nil
          rw [if_pos (by rfl)]
          refine wp_stB 26 _ _ rfl (by rfl) (by rfl) _ (by rfl) (show BlkV y3 gp 26 [.int .i64 0, .int .i64 0, .int .i64 0, .int .u32 0, .int .u32 0, .int .u32 0, .int .u32 0, .int .i64 0, .int .i64 0, .slice none 0 0, .slice none 0 0] from GA.out) (by rfl) (peer_size (by rfl)) (by rfl) ?_
          intro z8 Z8 O8
          have q9 : BlkV z8 gz 37 [.int .i64 0, .int .i64 0, .int .u32 0, .int .u32 0, .int .i64 0, .int .i64 0, .int .i64 0, .slice none 0 0, .slice none 0 0] := BlkV.only (show BlkV y3 gz 37 [.int .i64 0, .int .i64 0, .int .u32 0, .int .u32 0, .int .i64 0, .int .i64 0, .int .i64 0, .slice none 0 0, .slice none 0 0] from GB.out) O8 (fun h => NE.out h.symm)
          have hz8 := O8.bel LA.out hn3
          have HP8 := Lib.hid (OwnP.st HPC.out (show BlkV y3 gp 26 [.int .i64 0, .int .i64 0, .int .i64 0, .int .u32 0, .int .u32 0, .int .u32 0, .int .u32 0, .int .i64 0, .int .i64 0, .slice none 0 0, .slice none 0 0] from GA.out) O8 (by decide))
          have HT8 := Lib.hid (OwnS.st HTC.out (show BlkV y3 gp 26 [.int .i64 0, .int .i64 0, .int .i64 0, .int .u32 0, .int .u32 0, .int .u32 0, .int .u32 0, .int .i64 0, .int .i64 0, .slice none 0 0, .slice none 0 0] from GA.out) O8 (by decide))
          clear O8
          refine hK.out _ _ (KS.out _ hz8) (fun hHeld => ?_)
          clear hK K
          try simp only [Act.put, List.setIfInBounds_toArray, List.set_cons_zero, List.set_cons_succ]
          refine wpAnyH_ready (rs := [16]) (by kernel_rfl) (by simp) ?_
          refine AllReadyH.cons (o := _) rfl (fun K hK => ?_) AllReadyH.nil
          rw [if_pos (by rfl)]
          refine wp_stB 37 _ _ rfl (by rfl) (by rfl) _ (by rfl) q9 (by rfl) (tcp_size (by rfl)) (by rfl) ?_
          intro z9 Z9 O9
          have Z8' := BlkV.only (show BlkV z8 gp 26 _ from Z8) O9 NE.out
          have hz9 := O9.bel LB.out hz8
          have HP9 := Lib.hid (OwnP.st HP8.out q9 O9 (by decide))
          have HT9 := Lib.hid (OwnS.st HT8.out q9 O9 (by decide))
          have Z8h := Lib.hid Z8'
          have Z9h := Lib.hid Z9
          clear q9 O9 Z8 Z8' Z9 hz8
          refine hK.out _ _ (KS.out _ hz9) (fun hHeld => ?_)
          clear hK K
          try simp only [Act.put, List.setIfInBounds_toArray, List.set_cons_zero, List.set_cons_succ]
          refine wpAnyH_takeD (i := 17) (some 14) (v := ?_) rfl rfl (by kernel_rfl) (by kernel_rfl) (by kernel_rfl) (fun _ _ _ h => h) (Or.inl ⟨by rfl, ?_⟩) (by assumption) ?_
          rotate_left
          · (intro w hSw; (try dsimp only at hSw); go_simp; try with_reducible rfl)
          try simp only [Act.put, List.setIfInBounds_toArray, List.set_cons_zero, List.set_cons_succ]
          refine wpAnyH_done (by kernel_rfl) ?_ _
          go_wp2_with fail
          go_meet
          exact ⟨gp, gz, p, t5, rfl, rfl, rfl, hz9, LA.out, LB.out, Z8h.out, Z9h.out, HP9, HT9, HC1, HC2⟩
    · skip
      go_simp
      first | refine ct_gen (fun y1 hx => ?_) | refine ct_gend (fun y1 hx => ?_)
      have hy : Below (w6.drew).heap.size (w6.drew) y1 := by rw [hx]; first | exact bel_a (Below.refl _ _) _ | exact bel_a (bel_d (Below.refl _ _)) _ | exact bel_d (bel_a (Below.refl _ _) _)
      obtain ⟨gz, hg⟩ : ∃ g, g = (w6).heap.size := ⟨_, rfl⟩
      have GB : Hid (BlkV y1 gz 37 [.int .i64 0, .int .i64 0, .int .u32 0, .int .u32 0, .int .i64 0, .int .i64 0, .int .i64 0, .slice none 0 0, .slice none 0 0]) := Lib.hid (by rw [hx, hg]; first | exact BlkV.new_at _ _ _ rfl | exact BlkV.drewN (BlkV.new_at _ _ _ rfl) 1)
      have LB := Lib.hid (show w6.heap.size ≤ gz by rw [hg]; exact (hn0).size)
      rw [← hg]
      clear hx hg
      have hn1 := bel_then hn0 hy
      clear hy
      refine hK.out _ _ (KS.out _ hn1) (fun hHeld => ?_)
      clear hK K
      try simp only [Act.put, List.setIfInBounds_toArray, List.set_cons_zero, List.set_cons_succ]
      refine wpAnyH_ready (rs := [8, 13]) (by kernel_rfl) (by simp) ?_
      refine (AllReadyH.cons (o := _) rfl (fun K hK => ?_) (AllReadyH.cons (o := _) rfl (fun K hK => ?_) AllReadyH.nil))
      · skip
        go_simp
        refine (HH.out _ hn1).mono ?_
        rintro e y2 ⟨hx, p, t5, rfl, hp, ht5, hpc, htc⟩
        have hy : Below (y1).heap.size (y1) y2 := hx
        have hn2 := bel_then hn1 hy
        have HPC := Lib.hid (OwnP.weak hp (Nat.le_trans HT6.out.bel.size (hn1).size))
        have HTC := Lib.hid (OwnS.weak ht5 (Nat.le_trans HT6.out.bel.size (hn1).size))
        have HC1 := Lib.hid hpc
        have HC2 := Lib.hid htc
        have GB := Lib.hid (BlkV.below GB.out hy)
        clear hx hy hp ht5 hpc htc
        go_wp2_with fail
        refine hK.out _ _ (KS.out _ hn2) (fun hHeld => ?_)
        clear hK K
        try simp only [Act.put, List.setIfInBounds_toArray, List.set_cons_zero, List.set_cons_succ]
        refine wpAnyH_takeD (i := 9) (some 144) (v := ?_) rfl rfl (by kernel_rfl) (by kernel_rfl) (by kernel_rfl) (fun _ _ _ h => h) (Or.inl ⟨by rfl, ?_⟩) (by assumption) ?_
        rotate_left
        · (intro w hSw; (try dsimp only at hSw); go_simp; try with_reducible rfl)
        try simp only [Act.put, List.setIfInBounds_toArray, List.set_cons_zero, List.set_cons_succ]
        refine wpAnyH_takeD (i := 10) (some 154) (v := ?_) rfl rfl (by kernel_rfl) (by kernel_rfl) (by kernel_rfl) (fun _ _ _ h => h) (Or.inl ⟨by rfl, ?_⟩) (by assumption) ?_
        rotate_left
        · (intro w hSw; (try dsimp only at hSw); go_simp; try with_reducible rfl)
        try simp only [Act.put, List.setIfInBounds_toArray, List.set_cons_zero, List.set_cons_succ]
        refine wpAnyH_takeD (i := 11) (some 155) (v := ?_) rfl rfl (by kernel_rfl) (by kernel_rfl) (by kernel_rfl) (fun _ _ _ h => h) (Or.inl ⟨by rfl, ?_⟩) (by assumption) ?_
        rotate_left
        · (intro w hSw; (try dsimp only at hSw); go_simp; try with_reducible rfl)
        try simp only [Act.put, List.setIfInBounds_toArray, List.set_cons_zero, List.set_cons_succ]
        refine wpAnyH_takeD (i := 12) (some 156) (v := ?_) rfl rfl (by kernel_rfl) (by kernel_rfl) (by kernel_rfl) (fun _ _ _ h => h) (Or.inl ⟨by rfl, ?_⟩) (by assumption) ?_
        rotate_left
        · (intro w hSw; (try dsimp only at hSw); go_simp; try with_reducible rfl)
        try simp only [Act.put, List.setIfInBounds_toArray, List.set_cons_zero, List.set_cons_succ]
        refine wpAnyH_ready (rs := [13]) (by kernel_rfl) (by simp) ?_
        refine (AllReadyH.cons (o := _) rfl (fun K hK => ?_) AllReadyH.nil)
        · skip
          go_simp
          first | refine ct_gen (fun y3 hx => ?_) | refine ct_gend (fun y3 hx => ?_)
          have hy : Below (y2).heap.size (y2) y3 := by rw [hx]; first | exact bel_a (Below.refl _ _) _ | exact bel_a (bel_d (Below.refl _ _)) _ | exact bel_d (bel_a (Below.refl _ _) _)
          obtain ⟨gp, hg⟩ : ∃ g, g = (y2).heap.size := ⟨_, rfl⟩
          have GA : Hid (BlkV y3 gp 26 [.int .i64 0, .int .i64 0, .int .i64 0, .int .u32 0, .int .u32 0, .int .u32 0, .int .u32 0, .int .i64 0, .int .i64 0, .slice none 0 0, .slice none 0 0]) := Lib.hid (by rw [hx, hg]; first | exact BlkV.new_at _ _ _ rfl | exact BlkV.drewN (BlkV.new_at _ _ _ rfl) 1)
          have LA := Lib.hid (show w6.heap.size ≤ gp by rw [hg]; exact (hn2).size)
          have NE := Lib.hid (show gp ≠ gz by have := GB.out.lt; omega)
          rw [← hg]
          clear hx hg
          have hn3 := bel_then hn2 hy
          have GB := Lib.hid (BlkV.below GB.out hy)
          have HPC := Lib.hid (HPC.out.below hy)
          have HTC := Lib.hid (OwnS.below HTC.out hy)
          clear hy
          refine hK.out _ _ (KS.out _ hn3) (fun hHeld => ?_)
          clear hK K
          try simp only [Act.put, List.setIfInBounds_toArray, List.set_cons_zero, List.set_cons_succ]
          refine wpAnyH_ready (rs := [15]) (by kernel_rfl) (by simp) ?_
          refine AllReadyH.cons (o := _) rfl (fun K hK => ?_) AllReadyH.nil
          rw [if_pos (by rfl)]
          refine wp_stB 26 _ _ rfl (by rfl) (by rfl) _ (by rfl) (show BlkV y3 gp 26 [.int .i64 0, .int .i64 0, .int .i64 0, .int .u32 0, .int .u32 0, .int .u32 0, .int .u32 0, .int .i64 0, .int .i64 0, .slice none 0 0, .slice none 0 0] from GA.out) (by rfl) (peer_size (by rfl)) (by rfl) ?_
          intro z8 Z8 O8
          have q9 : BlkV z8 gz 37 [.int .i64 0, .int .i64 0, .int .u32 0, .int .u32 0, .int .i64 0, .int .i64 0, .int .i64 0, .slice none 0 0, .slice none 0 0] := BlkV.only (show BlkV y3 gz 37 [.int .i64 0, .int .i64 0, .int .u32 0, .int .u32 0, .int .i64 0, .int .i64 0, .int .i64 0, .slice none 0 0, .slice none 0 0] from GB.out) O8 (fun h => NE.out h.symm)
          have hz8 := O8.bel LA.out hn3
          have HP8 := Lib.hid (OwnP.st HPC.out (show BlkV y3 gp 26 [.int .i64 0, .int .i64 0, .int .i64 0, .int .u32 0, .int .u32 0, .int .u32 0, .int .u32 0, .int .i64 0, .int .i64 0, .slice none 0 0, .slice none 0 0] from GA.out) O8 (by decide))
          have HT8 := Lib.hid (OwnS.st HTC.out (show BlkV y3 gp 26 [.int .i64 0, .int .i64 0, .int .i64 0, .int .u32 0, .int .u32 0, .int .u32 0, .int .u32 0, .int .i64 0, .int .i64 0, .slice none 0 0, .slice none 0 0] from GA.out) O8 (by decide))
          clear O8
          refine hK.out _ _ (KS.out _ hz8) (fun hHeld => ?_)
          clear hK K
          try simp only [Act.put, List.setIfInBounds_toArray, List.set_cons_zero, List.set_cons_succ]
          refine wpAnyH_ready (rs := [16]) (by kernel_rfl) (by simp) ?_
          refine AllReadyH.cons (o := _) rfl (fun K hK => ?_) AllReadyH.nil
          rw [if_pos (by rfl)]
          refine wp_stB 37 _ _ rfl (by rfl) (by rfl) _ (by rfl) q9 (by rfl) (tcp_size (by rfl)) (by rfl) ?_
          intro z9 Z9 O9
          have Z8' := BlkV.only (show BlkV z8 gp 26 _ from Z8) O9 NE.out
          have hz9 := O9.bel LB.out hz8
          have HP9 := Lib.hid (OwnP.st HP8.out q9 O9 (by decide))
          have HT9 := Lib.hid (OwnS.st HT8.out q9 O9 (by decide))
          have Z8h := Lib.hid Z8'
          have Z9h := Lib.hid Z9
          clear q9 O9 Z8 Z8' Z9 hz8
          refine hK.out _ _ (KS.out _ hz9) (fun hHeld => ?_)
          clear hK K
          try simp only [Act.put, List.setIfInBounds_toArray, List.set_cons_zero, List.set_cons_succ]
          refine wpAnyH_takeD (i := 17) (some 14) (v := ?_) rfl rfl (by kernel_rfl) (by kernel_rfl) (by kernel_rfl) (fun _ _ _ h => h) (Or.inl ⟨by rfl, ?_⟩) (by assumption) ?_
          rotate_left
          · (intro w hSw; (try dsimp only at hSw); go_simp; try with_reducible rfl)
          try simp only [Act.put, List.setIfInBounds_toArray, List.set_cons_zero, List.set_cons_succ]
          refine wpAnyH_done (by kernel_rfl) ?_ _
          go_wp2_with fail
          go_meet
          exact ⟨gp, gz, p, t5, rfl, rfl, rfl, hz9, LA.out, LB.out, Z8h.out, Z9h.out, HP9, HT9, HC1, HC2⟩
      · skip
        go_simp
        first | refine ct_gen (fun y2 hx => ?_) | refine ct_gend (fun y2 hx => ?_)
        have hy : Below (y1).heap.size (y1) y2 := by rw [hx]; first | exact bel_a (Below.refl _ _) _ | exact bel_a (bel_d (Below.refl _ _)) _ | exact bel_d (bel_a (Below.refl _ _) _)
        obtain ⟨gp, hg⟩ : ∃ g, g = (y1).heap.size := ⟨_, rfl⟩
        have GA : Hid (BlkV y2 gp 26 [.int .i64 0, .int .i64 0, .int .i64 0, .int .u32 0, .int .u32 0, .int .u32 0, .int .u32 0, .int .i64 0, .int .i64 0, .slice none 0 0, .slice none 0 0]) := Lib.hid (by rw [hx, hg]; first | exact BlkV.new_at _ _ _ rfl | exact BlkV.drewN (BlkV.new_at _ _ _ rfl) 1)
        have LA := Lib.hid (show w6.heap.size ≤ gp by rw [hg]; exact (hn1).size)
        have NE := Lib.hid (show gp ≠ gz by have := GB.out.lt; omega)
        rw [← hg]
        clear hx hg
        have hn2 := bel_then hn1 hy
        have GB := Lib.hid (BlkV.below GB.out hy)
        clear hy
        refine hK.out _ _ (KS.out _ hn2) (fun hHeld => ?_)
        clear hK K
        try simp only [Act.put, List.setIfInBounds_toArray, List.set_cons_zero, List.set_cons_succ]
        refine wpAnyH_ready (rs := [8]) (by kernel_rfl) (by simp) ?_
        refine (AllReadyH.cons (o := _) rfl (fun K hK => ?_) AllReadyH.nil)
        · skip
          go_simp
          refine (HH.out _ hn2).mono ?_
          rintro e y3 ⟨hx, p, t5, rfl, hp, ht5, hpc, htc⟩
          have hy : Below (y2).heap.size (y2) y3 := hx
          have hn3 := bel_then hn2 hy
          have HPC := Lib.hid (OwnP.weak hp (Nat.le_trans HT6.out.bel.size (hn2).size))
          have HTC := Lib.hid (OwnS.weak ht5 (Nat.le_trans HT6.out.bel.size (hn2).size))
          have HC1 := Lib.hid hpc
          have HC2 := Lib.hid htc
          have GB := Lib.hid (BlkV.below GB.out hy)
          have GA := Lib.hid (BlkV.below GA.out hy)
          clear hx hy hp ht5 hpc htc
          go_wp2_with fail
          refine hK.out _ _ (KS.out _ hn3) (fun hHeld => ?_)
          clear hK K
          try simp only [Act.put, List.setIfInBounds_toArray, List.set_cons_zero, List.set_cons_succ]
          refine wpAnyH_takeD (i := 9) (some 144) (v := ?_) rfl rfl (by kernel_rfl) (by kernel_rfl) (by kernel_rfl) (fun _ _ _ h => h) (Or.inl ⟨by rfl, ?_⟩) (by assumption) ?_
          rotate_left
          · (intro w hSw; (try dsimp only at hSw); go_simp; try with_reducible rfl)
          try simp only [Act.put, List.setIfInBounds_toArray, List.set_cons_zero, List.set_cons_succ]
          refine wpAnyH_takeD (i := 10) (some 154) (v := ?_) rfl rfl (by kernel_rfl) (by kernel_rfl) (by kernel_rfl) (fun _ _ _ h => h) (Or.inl ⟨by rfl, ?_⟩) (by assumption) ?_
          rotate_left
          · (intro w hSw; (try dsimp only at hSw); go_simp; try with_reducible rfl)
          try simp only [Act.put, List.setIfInBounds_toArray, List.set_cons_zero, List.set_cons_succ]
          refine wpAnyH_takeD (i := 11) (some 155) (v := ?_) rfl rfl (by kernel_rfl) (by kernel_rfl) (by kernel_rfl) (fun _ _ _ h => h) (Or.inl ⟨by rfl, ?_⟩) (by assumption) ?_
          rotate_left
          · (intro w hSw; (try dsimp only at hSw); go_simp; try with_reducible rfl)
          try simp only [Act.put, List.setIfInBounds_toArray, List.set_cons_zero, List.set_cons_succ]
          refine wpAnyH_takeD (i := 12) (some 156) (v := ?_) rfl rfl (by kernel_rfl) (by kernel_rfl) (by kernel_rfl) (fun _ _ _ h => h) (Or.inl ⟨by rfl, ?_⟩) (by assumption) ?_
          rotate_left
          · (intro w hSw; (try dsimp only at hSw); go_simp; try with_reducible rfl)
          try simp only [Act.put, List.setIfInBounds_toArray, List.set_cons_zero, List.set_cons_succ]
          refine wpAnyH_ready (rs := [15]) (by kernel_rfl) (by simp) ?_
          refine AllReadyH.cons (o := _) rfl (fun K hK => ?_) AllReadyH.nil
          rw [if_pos (by rfl)]
          refine wp_stB 26 _ _ rfl (by rfl) (by rfl) _ (by rfl) (show BlkV y3 gp 26 [.int .i64 0, .int .i64 0, .int .i64 0, .int .u32 0, .int .u32 0, .int .u32 0, .int .u32 0, .int .i64 0, .int .i64 0, .slice none 0 0, .slice none 0 0] from GA.out) (by rfl) (peer_size (by rfl)) (by rfl) ?_
          intro z8 Z8 O8
          have q9 : BlkV z8 gz 37 [.int .i64 0, .int .i64 0, .int .u32 0, .int .u32 0, .int .i64 0, .int .i64 0, .int .i64 0, .slice none 0 0, .slice none 0 0] := BlkV.only (show BlkV y3 gz 37 [.int .i64 0, .int .i64 0, .int .u32 0, .int .u32 0, .int .i64 0, .int .i64 0, .int .i64 0, .slice none 0 0, .slice none 0 0] from GB.out) O8 (fun h => NE.out h.symm)
          have hz8 := O8.bel LA.out hn3
          have HP8 := Lib.hid (OwnP.st HPC.out (show BlkV y3 gp 26 [.int .i64 0, .int .i64 0, .int .i64 0, .int .u32 0, .int .u32 0, .int .u32 0, .int .u32 0, .int .i64 0, .int .i64 0, .slice none 0 0, .slice none 0 0] from GA.out) O8 (by decide))
          have HT8 := Lib.hid (OwnS.st HTC.out (show BlkV y3 gp 26 [.int .i64 0, .int .i64 0, .int .i64 0, .int .u32 0, .int .u32 0, .int .u32 0, .int .u32 0, .int .i64 0, .int .i64 0, .slice none 0 0, .slice none 0 0] from GA.out) O8 (by decide))
          clear O8
          refine hK.out _ _ (KS.out _ hz8) (fun hHeld => ?_)
          clear hK K
          try simp only [Act.put, List.setIfInBounds_toArray, List.set_cons_zero, List.set_cons_succ]
          refine wpAnyH_ready (rs := [16]) (by kernel_rfl) (by simp) ?_
          refine AllReadyH.cons (o := _) rfl (fun K hK => ?_) AllReadyH.nil
          rw [if_pos (by rfl)]
          refine wp_stB 37 _ _ rfl (by rfl) (by rfl) _ (by rfl) q9 (by rfl) (tcp_size (by rfl)) (by rfl) ?_
          intro z9 Z9 O9
          have Z8' := BlkV.only (show BlkV z8 gp 26 _ from Z8) O9 NE.out
          have hz9 := O9.bel LB.out hz8
          have HP9 := Lib.hid (OwnP.st HP8.out q9 O9 (by decide))
          have HT9 := Lib.hid (OwnS.st HT8.out q9 O9 (by decide))
          have Z8h := Lib.hid Z8'
          have Z9h := Lib.hid Z9
          clear q9 O9 Z8 Z8' Z9 hz8
          refine hK.out _ _ (KS.out _ hz9) (fun hHeld => ?_)
          clear hK K
          try simp only [Act.put, List.setIfInBounds_toArray, List.set_cons_zero, List.set_cons_succ]
          refine wpAnyH_takeD (i := 17) (some 14) (v := ?_) rfl rfl (by kernel_rfl) (by kernel_rfl) (by kernel_rfl) (fun _ _ _ h => h) (Or.inl ⟨by rfl, ?_⟩) (by assumption) ?_
          rotate_left
          · (intro w hSw; (try dsimp only at hSw); go_simp; try with_reducible rfl)
          try simp only [Act.put, List.setIfInBounds_toArray, List.set_cons_zero, List.set_cons_succ]
          refine wpAnyH_done (by kernel_rfl) ?_ _
          go_wp2_with fail
          go_meet
          exact ⟨gp, gz, p, t5, rfl, rfl, rfl, hz9, LA.out, LB.out, Z8h.out, Z9h.out, HP9, HT9, HC1, HC2⟩
  case rest =>
  obtain ⟨g12, g13, p, t5, rfl, rfl, rfl, hbx, hl12, hl13, C12, C13, HPx, HTx, HC1, HC2⟩ := hcut
  obtain ⟨wr, rfl⟩ : ∃ x, x = wc := ⟨wc, rfl⟩
  generalize hob : o.2.isSome = ob
  have HOB := Lib.hid hob
  clear hob
  have HTR := Lib.hid (HT6.out.below hbx)
  have hgr := HG6.out
  clear KS HH hn0 d0
  have KP : Hid (∀ w' : World, BlkV w' g12 26 [.int .i64 p.st, .int .i64 p.port, .int .i64 p.to, .int .u32 p.fi, .int .u32 p.un, .int .u32 p.ne, .int .u32 p.wa, .int .i64 p.wi, .int .i64 p.ot, .slice p.d.A p.d.n p.d.c, .slice p.g.A p.g.n p.g.c] → (w'.cell? ⟨g12, 0, none⟩ = some (.int .i64 p.st) ∧ w'.cell? ⟨g12, 1, none⟩ = some (.int .i64 p.port) ∧ w'.cell? ⟨g12, 2, none⟩ = some (.int .i64 p.to) ∧ w'.cell? ⟨g12, 3, none⟩ = some (.int .u32 p.fi) ∧ w'.cell? ⟨g12, 4, none⟩ = some (.int .u32 p.un) ∧ w'.cell? ⟨g12, 5, none⟩ = some (.int .u32 p.ne) ∧ w'.cell? ⟨g12, 6, none⟩ = some (.int .u32 p.wa) ∧ w'.cell? ⟨g12, 7, none⟩ = some (.int .i64 p.wi) ∧ w'.cell? ⟨g12, 8, none⟩ = some (.int .i64 p.ot) ∧ w'.cell? ⟨g12, 9, none⟩ = some (.slice p.d.A p.d.n p.d.c) ∧ w'.cell? ⟨g12, 10, none⟩ = some (.slice p.g.A p.g.n p.g.c))) := Lib.hid fun w' h => cells11 h
  go_upto_region 20 with (fail)
  refine wp_region_held_drew (S := fun w' => (w'.cell? ⟨g12, 0, none⟩ = some (.int .i64 p.st) ∧ w'.cell? ⟨g12, 1, none⟩ = some (.int .i64 p.port) ∧ w'.cell? ⟨g12, 2, none⟩ = some (.int .i64 p.to) ∧ w'.cell? ⟨g12, 3, none⟩ = some (.int .u32 p.fi) ∧ w'.cell? ⟨g12, 4, none⟩ = some (.int .u32 p.un) ∧ w'.cell? ⟨g12, 5, none⟩ = some (.int .u32 p.ne) ∧ w'.cell? ⟨g12, 6, none⟩ = some (.int .u32 p.wa) ∧ w'.cell? ⟨g12, 7, none⟩ = some (.int .i64 p.wi) ∧ w'.cell? ⟨g12, 8, none⟩ = some (.int .i64 p.ot) ∧ w'.cell? ⟨g12, 9, none⟩ = some (.slice p.d.A p.d.n p.d.c) ∧ w'.cell? ⟨g12, 10, none⟩ = some (.slice p.g.A p.g.n p.g.c))) (by kernel_rfl) (KP.out _ C12) (fun hHeld => ?_)
  refine wpAnyH_takeD (i := 0) (some 157) (v := ?_) rfl rfl (by kernel_rfl) (by kernel_rfl) (by kernel_rfl) (fun _ _ _ h => h) (Or.inl ⟨by rfl, ?_⟩) (by assumption) ?_
  rotate_left
  · (intro w hSw; (try dsimp only at hSw); go_simp; try with_reducible rfl)
  try simp only [Act.put, List.setIfInBounds_toArray, List.set_cons_zero, List.set_cons_succ]
  refine wpAnyH_takeD (i := 1) (some 158) (v := ?_) rfl rfl (by kernel_rfl) (by kernel_rfl) (by kernel_rfl) (fun _ _ _ h => h) (Or.inl ⟨by rfl, ?_⟩) (by assumption) ?_
  rotate_left
  · (intro w hSw; (try dsimp only at hSw); go_simp; try with_reducible rfl)
  try simp only [Act.put, List.setIfInBounds_toArray, List.set_cons_zero, List.set_cons_succ]
  refine wpAnyH_takeD (i := 2) (some 159) (v := ?_) rfl rfl (by kernel_rfl) (by kernel_rfl) (by kernel_rfl) (fun _ _ _ h => h) (Or.inl ⟨by rfl, ?_⟩) (by assumption) ?_
  rotate_left
  · (intro w hSw; (try dsimp only at hSw); go_simp; try with_reducible rfl)
  try simp only [Act.put, List.setIfInBounds_toArray, List.set_cons_zero, List.set_cons_succ]
  refine wpAnyH_takeD (i := 3) (some 160) (v := ?_) rfl rfl (by kernel_rfl) (by kernel_rfl) (by kernel_rfl) (fun _ _ _ h => h) (Or.inl ⟨by rfl, ?_⟩) (by assumption) ?_
  rotate_left
  · (intro w hSw; (try dsimp only at hSw); go_simp; try with_reducible rfl)
  try simp only [Act.put, List.setIfInBounds_toArray, List.set_cons_zero, List.set_cons_succ]
  refine wpAnyH_takeD (i := 4) (some 161) (v := ?_) rfl rfl (by kernel_rfl) (by kernel_rfl) (by kernel_rfl) (fun _ _ _ h => h) (Or.inl ⟨by rfl, ?_⟩) (by assumption) ?_
  rotate_left
  · (intro w hSw; (try dsimp only at hSw); go_simp; try with_reducible rfl)
  try simp only [Act.put, List.setIfInBounds_toArray, List.set_cons_zero, List.set_cons_succ]
  refine wpAnyH_takeD (i := 5) (some 162) (v := ?_) rfl rfl (by kernel_rfl) (by kernel_rfl) (by kernel_rfl) (fun _ _ _ h => h) (Or.inl ⟨by rfl, ?_⟩) (by assumption) ?_
  rotate_left
  · (intro w hSw; (try dsimp only at hSw); go_simp; try with_reducible rfl)
  try simp only [Act.put, List.setIfInBounds_toArray, List.set_cons_zero, List.set_cons_succ]
  refine wpAnyH_takeD (i := 6) (some 163) (v := ?_) rfl rfl (by kernel_rfl) (by kernel_rfl) (by kernel_rfl) (fun _ _ _ h => h) (Or.inl ⟨by rfl, ?_⟩) (by assumption) ?_
  rotate_left
  · (intro w hSw; (try dsimp only at hSw); go_simp; try with_reducible rfl)
  try simp only [Act.put, List.setIfInBounds_toArray, List.set_cons_zero, List.set_cons_succ]
  refine wpAnyH_ready (rs := [7]) (by kernel_rfl) (by simp) ?_
  refine AllReadyH.cons (o := _) rfl (fun K hK => ?_) AllReadyH.nil
  rw [if_pos (by rfl)]
  refine wp_stM (pre := [.int .i64 z.P0.st, .int .i64 z.P0.port, .int .i64 z.P0.to, .int .u32 z.P0.fi, .int .u32 z.P0.un, .int .u32 z.P0.ne, .int .u32 z.P0.wa, .int .i64 z.P0.wi, .int .i64 z.P0.ot, .slice z.P0.d.A z.P0.d.n z.P0.d.c, .slice z.P0.g.A z.P0.g.n z.P0.g.c]) (cs := [.int .i64 z.P1.st, .int .i64 z.P1.port, .int .i64 z.P1.to, .int .u32 z.P1.fi, .int .u32 z.P1.un, .int .u32 z.P1.ne, .int .u32 z.P1.wa, .int .i64 z.P1.wi, .int .i64 z.P1.ot, .slice z.P1.d.A z.P1.d.n z.P1.d.c, .slice z.P1.g.A z.P1.g.n z.P1.g.c]) (ds := [.int .i64 p.st, .int .i64 p.port, .int .i64 p.to, .int .u32 p.fi, .int .u32 p.un, .int .u32 p.ne, .int .u32 p.wa, .int .i64 p.wi, .int .i64 p.ot, .slice p.d.A p.d.n p.d.c, .slice p.g.A p.g.n p.g.c]) (post := _) 26 _ _ rfl rfl (by rfl) (by rfl) (BlkV.fit HTR.out.drew.blk rfl) (by rfl) (peer_size (by rfl)) (by rfl) ?_
  intro w7 B7 h7
  have HTz := Lib.hid (HTR.out.drew.peer1 HPx.out.drew h7 (BlkV.fit B7 rfl))
  have C8 := (show BlkV wr.drew _ _ _ from C13).only h7 (by omega)
  have HOT := Lib.hid (OwnS.st (OwnS.drew HTx.out) HTR.out.drew.blk h7 (by decide))
  have HL8 := Lib.hid (show W.heap.size ≤ g13 by have := HLE.out; have := HSN.out; have := HS6.out; omega)
  refine hK.out _ _ (KP.out _ ((show BlkV wr.drew _ _ _ from C12).only h7 (by omega))) (fun hHeld => ?_)
  clear hK K
  try simp only [Act.put, List.setIfInBounds_toArray, List.set_cons_zero, List.set_cons_succ]
  refine wpAnyH_done (by kernel_rfl) ?_ _
  clear HTR HPx HTx KP B7 h7 C12 C13 hHeld hbx
  have HTG := Lib.hid (show g < w.heap.size from HGW.out)
  cases ob
  · go_wp2_with fail
    go_end0
    exact ⟨rfl, _, HTz.out, by
      have e1 := HCT.out
      have e2 := HO.out
      have e3 := HC1.out
      have he : o.2 = none := by
        cases he : o.2 with
        | none => rfl
        | some x => have := HOB.out; rw [he] at this; cases this
      unfold Two.ct Pb.comeK
      simp [e1, ← e2, he, e3, erase_map]⟩
  · go_upto_region 22 with (fail)
    have KS : Hid (∀ w' : World, BlkV w' (g13) 37 [.int .i64 t5.sp, .int .i64 t5.dp, .int .u32 t5.sq, .int .u32 t5.ak, .int .i64 t5.fl, .int .i64 t5.wi, .int .i64 t5.ur, .slice t5.Ao t5.no t5.co, .slice t5.Ab t5.nb t5.cb] → BlkV w' g 48 [.int .i64 z.P0.st, .int .i64 z.P0.port, .int .i64 z.P0.to, .int .u32 z.P0.fi, .int .u32 z.P0.un, .int .u32 z.P0.ne, .int .u32 z.P0.wa, .int .i64 z.P0.wi, .int .i64 z.P0.ot, .slice z.P0.d.A z.P0.d.n z.P0.d.c, .slice z.P0.g.A z.P0.g.n z.P0.g.c, .int .i64 p.st, .int .i64 p.port, .int .i64 p.to, .int .u32 p.fi, .int .u32 p.un, .int .u32 p.ne, .int .u32 p.wa, .int .i64 p.wi, .int .i64 p.ot, .slice p.d.A p.d.n p.d.c, .slice p.g.A p.g.n p.g.c, .slice A4 (z.n0 - 1) k4, .slice z.A1 z.n1 z.c1] → (w'.cell? ⟨g13, 0, none⟩ = some (.int .i64 t5.sp) ∧ w'.cell? ⟨g13, 1, none⟩ = some (.int .i64 t5.dp) ∧ w'.cell? ⟨g13, 2, none⟩ = some (.int .u32 t5.sq) ∧ w'.cell? ⟨g13, 3, none⟩ = some (.int .u32 t5.ak) ∧ w'.cell? ⟨g13, 4, none⟩ = some (.int .i64 t5.fl) ∧ w'.cell? ⟨g13, 5, none⟩ = some (.int .i64 t5.wi) ∧ w'.cell? ⟨g13, 6, none⟩ = some (.int .i64 t5.ur) ∧ w'.cell? ⟨g13, 7, none⟩ = some (.slice t5.Ao t5.no t5.co) ∧ w'.cell? ⟨g13, 8, none⟩ = some (.slice t5.Ab t5.nb t5.cb) ∧ w'.cell? ⟨g, 23, none⟩ = some (.slice z.A1 z.n1 z.c1))) := Lib.hid fun w' h k => by
      obtain ⟨h0, h1, h2, h3, h4, h5, h6, h7, h8⟩ := cells9 h
      exact ⟨h0, h1, h2, h3, h4, h5, h6, h7, h8, k.cell rfl⟩
    have NE8 : Hid ((Value.slice z.A1 z.n1 z.c1).ownBlock ≠ some (g13)) := Lib.hid fun e => by have h1 := HNE1.out _ e; have h2 := HL8.out; omega
    refine wp_region_X (S := fun w' => (w'.cell? ⟨g13, 0, none⟩ = some (.int .i64 t5.sp) ∧ w'.cell? ⟨g13, 1, none⟩ = some (.int .i64 t5.dp) ∧ w'.cell? ⟨g13, 2, none⟩ = some (.int .u32 t5.sq) ∧ w'.cell? ⟨g13, 3, none⟩ = some (.int .u32 t5.ak) ∧ w'.cell? ⟨g13, 4, none⟩ = some (.int .i64 t5.fl) ∧ w'.cell? ⟨g13, 5, none⟩ = some (.int .i64 t5.wi) ∧ w'.cell? ⟨g13, 6, none⟩ = some (.int .i64 t5.ur) ∧ w'.cell? ⟨g13, 7, none⟩ = some (.slice t5.Ao t5.no t5.co) ∧ w'.cell? ⟨g13, 8, none⟩ = some (.slice t5.Ab t5.nb t5.cb) ∧ w'.cell? ⟨g, 23, none⟩ = some (.slice z.A1 z.n1 z.c1))) 16 (by kernel_rfl) (KS.out _ (show BlkV w7.drew _ _ _ from C8) (show BlkV w7.drew g 48 _ from BlkV.fit HTz.out.blk rfl)) (fun hHeld => ?_)
    refine wpAnyX_takeD (i := 0) (some 165) (v := ?_) rfl rfl (by kernel_rfl) (by kernel_rfl) (by kernel_rfl) (by kernel_rfl) (fun _ _ _ h => h) (Or.inl ⟨by rfl, ?_⟩) (by assumption) ?_
    rotate_left
    · (intro w hSw; (try dsimp only at hSw); go_simp; try with_reducible rfl)
    try simp only [Act.put, List.setIfInBounds_toArray, List.set_cons_zero, List.set_cons_succ]
    refine wpAnyX_takeD (i := 1) (some 166) (v := ?_) rfl rfl (by kernel_rfl) (by kernel_rfl) (by kernel_rfl) (by kernel_rfl) (fun _ _ _ h => h) (Or.inl ⟨by rfl, ?_⟩) (by assumption) ?_
    rotate_left
    · (intro w hSw; (try dsimp only at hSw); go_simp; try with_reducible rfl)
    try simp only [Act.put, List.setIfInBounds_toArray, List.set_cons_zero, List.set_cons_succ]
    refine wpAnyX_takeD (i := 2) (some 167) (v := ?_) rfl rfl (by kernel_rfl) (by kernel_rfl) (by kernel_rfl) (by kernel_rfl) (fun _ _ _ h => h) (Or.inl ⟨by rfl, ?_⟩) (by assumption) ?_
    rotate_left
    · (intro w hSw; (try dsimp only at hSw); go_simp; try with_reducible rfl)
    try simp only [Act.put, List.setIfInBounds_toArray, List.set_cons_zero, List.set_cons_succ]
    refine wpAnyX_takeD (i := 3) (some 168) (v := ?_) rfl rfl (by kernel_rfl) (by kernel_rfl) (by kernel_rfl) (by kernel_rfl) (fun _ _ _ h => h) (Or.inl ⟨by rfl, ?_⟩) (by assumption) ?_
    rotate_left
    · (intro w hSw; (try dsimp only at hSw); go_simp; try with_reducible rfl)
    try simp only [Act.put, List.setIfInBounds_toArray, List.set_cons_zero, List.set_cons_succ]
    refine wpAnyX_takeD (i := 4) (some 169) (v := ?_) rfl rfl (by kernel_rfl) (by kernel_rfl) (by kernel_rfl) (by kernel_rfl) (fun _ _ _ h => h) (Or.inl ⟨by rfl, ?_⟩) (by assumption) ?_
    rotate_left
    · (intro w hSw; (try dsimp only at hSw); go_simp; try with_reducible rfl)
    try simp only [Act.put, List.setIfInBounds_toArray, List.set_cons_zero, List.set_cons_succ]
    refine wpAnyX_takeD (i := 5) (some 170) (v := ?_) rfl rfl (by kernel_rfl) (by kernel_rfl) (by kernel_rfl) (by kernel_rfl) (fun _ _ _ h => h) (Or.inl ⟨by rfl, ?_⟩) (by assumption) ?_
    rotate_left
    · (intro w hSw; (try dsimp only at hSw); go_simp; try with_reducible rfl)
    try simp only [Act.put, List.setIfInBounds_toArray, List.set_cons_zero, List.set_cons_succ]
    refine wpAnyX_takeD (i := 6) (some 171) (v := ?_) rfl rfl (by kernel_rfl) (by kernel_rfl) (by kernel_rfl) (by kernel_rfl) (fun _ _ _ h => h) (Or.inl ⟨by rfl, ?_⟩) (by assumption) ?_
    rotate_left
    · (intro w hSw; (try dsimp only at hSw); go_simp; try with_reducible rfl)
    try simp only [Act.put, List.setIfInBounds_toArray, List.set_cons_zero, List.set_cons_succ]
    refine wpAnyX_takeD (i := 7) (some 172) (v := ?_) rfl rfl (by kernel_rfl) (by kernel_rfl) (by kernel_rfl) (by kernel_rfl) (fun _ _ _ h => h) (Or.inl ⟨by rfl, ?_⟩) (by assumption) ?_
    rotate_left
    · (intro w hSw; (try dsimp only at hSw); go_simp; try with_reducible rfl)
    try simp only [Act.put, List.setIfInBounds_toArray, List.set_cons_zero, List.set_cons_succ]
    refine wpAnyX_takeD (i := 8) (some 173) (v := ?_) rfl rfl (by kernel_rfl) (by kernel_rfl) (by kernel_rfl) (by kernel_rfl) (fun _ _ _ h => h) (Or.inl ⟨by rfl, ?_⟩) (by assumption) ?_
    rotate_left
    · (intro w hSw; (try dsimp only at hSw); go_simp; try with_reducible rfl)
    try simp only [Act.put, List.setIfInBounds_toArray, List.set_cons_zero, List.set_cons_succ]
    refine wpAnyX_takeD (i := 9) (some 174) (v := ?_) rfl rfl (by kernel_rfl) (by kernel_rfl) (by kernel_rfl) (by kernel_rfl) (fun _ _ _ h => h) (Or.inl ⟨by rfl, ?_⟩) (by assumption) ?_
    rotate_left
    · (intro w hSw; (try dsimp only at hSw); go_simp; try with_reducible rfl)
    try simp only [Act.put, List.setIfInBounds_toArray, List.set_cons_zero, List.set_cons_succ]
    refine wpAnyX_takeD (i := 10) (some 175) (v := ?_) rfl rfl (by kernel_rfl) (by kernel_rfl) (by kernel_rfl) (by kernel_rfl) (fun _ _ _ h => h) (Or.inl ⟨by rfl, ?_⟩) (by assumption) ?_
    rotate_left
    · (intro w hSw; (try dsimp only at hSw); go_simp; try with_reducible rfl)
    try simp only [Act.put, List.setIfInBounds_toArray, List.set_cons_zero, List.set_cons_succ]
    refine wpAnyX_takeD (i := 13) (some 178) (v := ?_) rfl rfl (by kernel_rfl) (by kernel_rfl) (by kernel_rfl) (by kernel_rfl) (fun _ _ _ h => h) (Or.inl ⟨by rfl, ?_⟩) (by assumption) ?_
    rotate_left
    · (intro w hSw; (try dsimp only at hSw); go_simp; try with_reducible rfl)
    try simp only [Act.put, List.setIfInBounds_toArray, List.set_cons_zero, List.set_cons_succ]
    refine wpAnyX_takeD (i := 14) (some 179) (v := ?_) rfl rfl (by kernel_rfl) (by kernel_rfl) (by kernel_rfl) (by kernel_rfl) (fun _ _ _ h => h) (Or.inl ⟨by rfl, ?_⟩) (by assumption) ?_
    rotate_left
    · (intro w hSw; (try dsimp only at hSw); go_simp; try with_reducible rfl)
    try simp only [Act.put, List.setIfInBounds_toArray, List.set_cons_zero, List.set_cons_succ]
    refine wpAnyX_ready (rs := [11]) (by kernel_rfl) (by simp) ?_
    refine AllReadyX.cons (o := _) rfl (fun K hK => ?_) AllReadyX.nil
    go_simp
    first | refine ct_gen (fun y1 hy1 => ?_) | refine ct_gend (fun y1 hy1 => ?_)
    have hby : Below w7.heap.size w7 y1 := by rw [hy1]; first | exact bel_a (bel_d (Below.refl _ _)) _ | exact bel_d (bel_a (Below.refl _ _) _)
    have HRD : Hid (Rd y1 9 (some ⟨w7.heap.size, 0, none⟩) 1 t5.cells) := Lib.hid (by rw [hy1]; first | exact rd_seg w7.drew t5 | exact (rd_seg w7 t5).drew)
    have HTy := Lib.hid (HTz.out.below hby)
    have SBy := BlkV.below C8 hby
    have hsy := hby.size
    clear hy1
    refine hK.out _ _ (KS.out _ SBy (BlkV.fit HTy.out.blk rfl)) (fun hHeld => ?_)
    clear hK K
    try simp only [Act.put, List.setIfInBounds_toArray, List.set_cons_zero, List.set_cons_succ]
    refine wpAnyX_ready (rs := [12]) (by kernel_rfl) (by simp) ?_
    refine AllReadyX.cons (o := _) rfl (fun K hK => ?_) AllReadyX.nil
    refine step_app9 (by rfl) (.tmp 174) (.tmp 176) 45 (by rfl) w0 HTy.out.bel 37 _ 9 96 Try.underlying45 info_tcp rfl (by decide) (.slice z.A1 z.n1 z.c1) z.n1 (segCells z.l1) (by rfl) HTy.out.r1 (some ⟨w7.heap.size, 0, none⟩) 1 1 t5.cells (by rfl) HRD.out (by rw [← segCells_one]; exact one_segs _) (by unfold maxLen; omega) (by omega) ?_
    intro A6 k6 y2 hown hby2 hgr hat
    have SB2 := SBy.grown hgr NE8.out
    have BG2 := HTy.out.blk.grown hgr (own_ne (m := 0) HTy.out.r1 HTy.out.blk (by decide))
    have HOWN := Lib.hid hown
    have HGR := Lib.hid hgr
    have HBY2 := Lib.hid hby2
    have HAT := Lib.hid hat
    clear hown hgr hby2 hat
    refine hK.out _ _ (KS.out _ SB2 (BlkV.fit BG2 rfl)) (fun hHeld => ?_)
    clear hK K
    try simp only [Act.put, List.setIfInBounds_toArray, List.set_cons_zero, List.set_cons_succ]
    refine wpAnyX_takeD (i := 15) (some 180) (v := ?_) rfl rfl (by kernel_rfl) (by kernel_rfl) (by kernel_rfl) (by kernel_rfl) (fun _ _ _ h => h) (Or.inl ⟨by rfl, ?_⟩) (by assumption) ?_
    rotate_left
    · (intro w hSw; (try dsimp only at hSw); go_simp; try with_reducible rfl)
    try simp only [Act.put, List.setIfInBounds_toArray, List.set_cons_zero, List.set_cons_succ]
    refine wpAnyX_ready (rs := [16]) (by kernel_rfl) (by simp) ?_
    refine AllReadyX.last (o := _) rfl (by kernel_rfl) (fun K hK => ?_)
    rw [if_pos (by rfl)]
    refine wp_stF 45 _ _ 23 (.slice A6 (z.n1 + 1) k6) rfl (by rfl) (by rfl) (by rfl) BG2 (by simp) (by kernel_rfl) rfl ?_
    intro w6 B6 h6
    refine hK.out _ _ ?_
    clear hK K
    try simp only [Act.put, List.setIfInBounds_toArray, List.set_cons_zero, List.set_cons_succ]
    refine wpAnyX_done (by kernel_rfl) ?_ _
    have HT6 := Lib.hid (HTy.out.way1 HGR.out HBY2.out (l := z.l1 ++ [t5]) (by rw [segCells_app, segCells_one]; exact HOWN.out) (fun x hx => by rcases List.mem_append.1 hx with hx | hx; exact HTy.out.t1 x hx; rw [List.mem_singleton.1 hx]; exact HOT.out.below hby) (HAT.out.imp id (fun e k h => by rw [e] at h; injection h with h; omega)) h6 (BlkV.fit B6 rfl))
    clear HTy HTz SBy SB2 BG2 HOWN HGR HBY2 HAT KS NE8 HRD B6 h6 hby hHeld
    go_wp2_with fail
    go_end0
    exact ⟨rfl, _, HT6.out, by
      have e1 := HCT.out
      have e2 := HO.out
      have e3 := HC1.out
      have e4 : o.2 = some t5.con := by
        cases he : o.2 with
        | none => have := HOB.out; rw [he] at this; cases this
        | some x => have := HC2.out; rw [he] at this; rw [this]; rfl
      unfold Two.ct Pb.comeK
      simp [e1, ← e2, e3, e4, erase_map]⟩
end Go.Proofs.Ytihhcalgjkkalaa
