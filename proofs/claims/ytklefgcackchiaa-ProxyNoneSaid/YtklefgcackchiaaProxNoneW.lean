/- ProxyNone's walk. -/
import Derived.Test.YtklefgcackchiaaProxAwake
import Derived.Test.YtklefgcackchiaaProxSame
import Derived.Test.YtklefgcackchiaaProxLawP
namespace Go.Proofs.Ytklefgcackchiaa
open Go.RowKit
set_option linter.unusedVariables false
set_option linter.unusedSimpArgs false
set_option maxRecDepth 8000 in
set_option maxHeartbeats 16000000 in
theorem none_walk (t : Tcp.T) (s st q qt : Int) (w : World) (ht : t.ok w) (h0 : 0 ≤ s) (h1 : s ≤ 4294967295) (h2 : 0 ≤ st) (h3 : st ≤ 4294967295) (h4 : 0 ≤ q) (h5 : q ≤ 4294967295) (h6 : 0 ≤ qt) (h7 : qt ≤ 4294967295) :
    Calls Try.prog 3 #[.agg #[.int .i64 t.sp, .int .i64 t.dp, .int .u32 t.sq, .int .u32 t.ak, .int .i64 t.fl, .int .i64 t.wi, .int .i64 t.ur, .slice t.Ao t.no t.co, .slice t.Ab t.nb t.cb], .agg #[.int .u32 s, .int .u32 st], .agg #[.int .u32 q, .int .u32 qt]] w fun e w' => e = .returned (.bool true) ∧ Below w.heap.size w w' := by
  obtain ⟨W, hW⟩ : ∃ W, W = ((w.alloc (.cells #[.int .i64 t.sp, .int .i64 t.dp, .int .u32 t.sq, .int .u32 t.ak, .int .i64 t.fl, .int .i64 t.wi, .int .i64 t.ur, .slice t.Ao t.no t.co, .slice t.Ab t.nb t.cb] 26)).alloc (.cells #[.int .u32 s, .int .u32 st] 28)).alloc (.cells #[.int .u32 q, .int .u32 qt] 28) := ⟨_, rfl⟩
  have hbW : Below w.heap.size w W := (by rw [hW]; exact (((Below.refl _ _).alloc (Nat.le_refl _) _).alloc (by simp) _).alloc (by simp; omega) _)
  have B0 : BlkV W w.heap.size 26 [.int .i64 t.sp, .int .i64 t.dp, .int .u32 t.sq, .int .u32 t.ak, .int .i64 t.fl, .int .i64 t.wi, .int .i64 t.ur, .slice t.Ao t.no t.co, .slice t.Ab t.nb t.cb] := (by rw [hW]; exact ((BlkV.new w _ _).alloc _).alloc _)
  have B1 : BlkV W (w.heap.size + 1) 28 [.int .u32 s, .int .u32 st] := (by rw [hW]; exact (BlkV.new_at (w.alloc (.cells #[.int .i64 t.sp, .int .i64 t.dp, .int .u32 t.sq, .int .u32 t.ak, .int .i64 t.fl, .int .i64 t.wi, .int .i64 t.ur, .slice t.Ao t.no t.co, .slice t.Ab t.nb t.cb] 26)) _ _ (by simp)).alloc _)
  have B2 : BlkV W (w.heap.size + 1 + 1) 28 [.int .u32 q, .int .u32 qt] := (by rw [hW]; exact (BlkV.new_at ((w.alloc (.cells #[.int .i64 t.sp, .int .i64 t.dp, .int .u32 t.sq, .int .u32 t.ak, .int .i64 t.fl, .int .i64 t.wi, .int .i64 t.ur, .slice t.Ao t.no t.co, .slice t.Ab t.nb t.cb] 26)).alloc (.cells #[.int .u32 s, .int .u32 st] 28)) _ _ (by simp)))
  have HA := Lib.hid (prox_awake W)
  go_enter Try.func3, Try.ntmps3
  go_upto_region 1 with (fail)
  rw [← hW]
  clear hW
  go_wp2_with fail
  refine HA.out.mono ?_
  rintro e w1 ⟨rfl, hb1⟩
  have B0a := B0.below hb1
  have B1a := B1.below hb1
  have B2a := B2.below hb1
  have hbw1 := bel_then hbW hb1
  have hs1 := hb1.size
  have HSH := Lib.hid (pshort_spec t w1 (ht.below hbw1))
  clear B0 B1 B2 hbW hb1 HA
  go_wp2_with (refine wpList_ldB 26 _ _ (by with_reducible rfl) rfl (by rfl) B0a Try.underlying26 rfl (tcp_size (by rfl)) ?_)
  refine HSH.out.mono ?_
  rintro e w2 ⟨b, rfl, hsm, hb2⟩
  have B0 := B0a.below hb2
  have B1 := B1a.below hb2
  have B2 := B2a.below hb2
  have hbw2 := bel_then hbw1 hb2
  have HSM := Lib.hid hsm
  clear B0a B1a B2a hbw1 hb2 HSH hsm hs1
  cases b
  · go_wp2_with fail
    go_ret
    exact ⟨rfl, hbw2⟩
  have HT := Lib.hid (ht.below (bel_a hbw2 (.cells #[.int .u32 ((s + q) % 4294967296), .int .u32 ((st + qt) % 4294967296)] 28)))
  have HS := Lib.hid (HSM.out rfl)
  clear ht HSM
  have d0 := B1.cell (i := 0) rfl
  have d1 := B1.cell (i := 1) rfl
  have e0 := B2.cell (i := 0) rfl
  have e1 := B2.cell (i := 1) rfl
  go_upto_region 6 with (fail)
  clear d0 d1 e0 e1
  obtain ⟨p, hp⟩ : ∃ p, p = w2.heap.size := ⟨_, rfl⟩
  obtain ⟨V, hV⟩ : ∃ V, V = w2.alloc (.cells #[.int .u32 ((s + q) % 4294967296), .int .u32 ((st + qt) % 4294967296)] 28) := ⟨_, rfl⟩
  have hbV : Below w.heap.size w V := by rw [hV]; exact bel_a hbw2 _
  rw [← hV] at HT
  have hn0 : Below V.heap.size V V := Below.refl _ _
  have KS : Hid (∀ w' : World, Below V.heap.size V w' → (w'.cell? ⟨w.heap.size, 0, none⟩ = some (.int .i64 t.sp) ∧ w'.cell? ⟨w.heap.size, 1, none⟩ = some (.int .i64 t.dp) ∧ w'.cell? ⟨w.heap.size, 2, none⟩ = some (.int .u32 t.sq) ∧ w'.cell? ⟨w.heap.size, 3, none⟩ = some (.int .u32 t.ak) ∧ w'.cell? ⟨w.heap.size, 4, none⟩ = some (.int .i64 t.fl) ∧ w'.cell? ⟨w.heap.size, 5, none⟩ = some (.int .i64 t.wi) ∧ w'.cell? ⟨w.heap.size, 6, none⟩ = some (.int .i64 t.ur) ∧ w'.cell? ⟨w.heap.size, 7, none⟩ = some (.slice t.Ao t.no t.co) ∧ w'.cell? ⟨w.heap.size, 8, none⟩ = some (.slice t.Ab t.nb t.cb) ∧ w'.cell? ⟨w.heap.size + 1, 0, none⟩ = some (.int .u32 s) ∧ w'.cell? ⟨w.heap.size + 1, 1, none⟩ = some (.int .u32 st) ∧ w'.cell? ⟨w.heap.size + 1 + 1, 0, none⟩ = some (.int .u32 q) ∧ w'.cell? ⟨w.heap.size + 1 + 1, 1, none⟩ = some (.int .u32 qt) ∧ w'.cell? ⟨p, 0, none⟩ = some (.int .u32 ((s + q) % 4294967296)) ∧ w'.cell? ⟨p, 1, none⟩ = some (.int .u32 ((st + qt) % 4294967296)))) := Lib.hid (by
    have A0 : BlkV V w.heap.size 26 [.int .i64 t.sp, .int .i64 t.dp, .int .u32 t.sq, .int .u32 t.ak, .int .i64 t.fl, .int .i64 t.wi, .int .i64 t.ur, .slice t.Ao t.no t.co, .slice t.Ab t.nb t.cb] := by rw [hV]; exact B0.alloc _
    have A1 : BlkV V (w.heap.size + 1) 28 [.int .u32 s, .int .u32 st] := by rw [hV]; exact B1.alloc _
    have A2 : BlkV V (w.heap.size + 1 + 1) 28 [.int .u32 q, .int .u32 qt] := by rw [hV]; exact B2.alloc _
    have A3 : BlkV V p 28 [.int .u32 ((s + q) % 4294967296), .int .u32 ((st + qt) % 4294967296)] := by rw [hV]; exact BlkV.new_at w2 _ _ hp
    intro w' hb
    obtain ⟨c0, c1, c2, c3, c4, c5, c6, c7, c8⟩ := cells9' (A0.below hb)
    exact ⟨c0, c1, c2, c3, c4, c5, c6, c7, c8, (A1.below hb).cell rfl, (A1.below hb).cell rfl, (A2.below hb).cell rfl, (A2.below hb).cell rfl, (A3.below hb).cell rfl, (A3.below hb).cell rfl⟩)
  rw [← hV]
  rw [← hp]
  have hu0 : 0 ≤ (s + q) % 4294967296 ∧ (s + q) % 4294967296 ≤ 4294967295 := by omega
  have hu1 : 0 ≤ (st + qt) % 4294967296 ∧ (st + qt) % 4294967296 ≤ 4294967295 := by omega
  clear B0 B1 B2 hV hp hbw2
  refine wp_region_held_drew (S := fun w' => (w'.cell? ⟨w.heap.size, 0, none⟩ = some (.int .i64 t.sp) ∧ w'.cell? ⟨w.heap.size, 1, none⟩ = some (.int .i64 t.dp) ∧ w'.cell? ⟨w.heap.size, 2, none⟩ = some (.int .u32 t.sq) ∧ w'.cell? ⟨w.heap.size, 3, none⟩ = some (.int .u32 t.ak) ∧ w'.cell? ⟨w.heap.size, 4, none⟩ = some (.int .i64 t.fl) ∧ w'.cell? ⟨w.heap.size, 5, none⟩ = some (.int .i64 t.wi) ∧ w'.cell? ⟨w.heap.size, 6, none⟩ = some (.int .i64 t.ur) ∧ w'.cell? ⟨w.heap.size, 7, none⟩ = some (.slice t.Ao t.no t.co) ∧ w'.cell? ⟨w.heap.size, 8, none⟩ = some (.slice t.Ab t.nb t.cb) ∧ w'.cell? ⟨w.heap.size + 1, 0, none⟩ = some (.int .u32 s) ∧ w'.cell? ⟨w.heap.size + 1, 1, none⟩ = some (.int .u32 st) ∧ w'.cell? ⟨w.heap.size + 1 + 1, 0, none⟩ = some (.int .u32 q) ∧ w'.cell? ⟨w.heap.size + 1 + 1, 1, none⟩ = some (.int .u32 qt) ∧ w'.cell? ⟨p, 0, none⟩ = some (.int .u32 ((s + q) % 4294967296)) ∧ w'.cell? ⟨p, 1, none⟩ = some (.int .u32 ((st + qt) % 4294967296)))) (by kernel_rfl) (KS.out _ (bel_d hn0)) (fun hHeld => ?_)
  refine wpAnyH_takeD (i := 0) (some 24) (v := ?_) rfl rfl (by kernel_rfl) (by kernel_rfl) (by kernel_rfl) (fun _ _ _ h => h) (Or.inl ⟨by rfl, ?_⟩) (by assumption) ?_
  rotate_left
  · (intro w hSw; (try dsimp only at hSw); go_simp; try with_reducible rfl)
  try simp only [Act.put, List.setIfInBounds_toArray, List.set_cons_zero, List.set_cons_succ]
  refine wpAnyH_takeD (i := 1) (some 25) (v := ?_) rfl rfl (by kernel_rfl) (by kernel_rfl) (by kernel_rfl) (fun _ _ _ h => h) (Or.inl ⟨by rfl, ?_⟩) (by assumption) ?_
  rotate_left
  · (intro w hSw; (try dsimp only at hSw); go_simp; try with_reducible rfl)
  try simp only [Act.put, List.setIfInBounds_toArray, List.set_cons_zero, List.set_cons_succ]
  refine wpAnyH_takeD (i := 3) (some 27) (v := ?_) rfl rfl (by kernel_rfl) (by kernel_rfl) (by kernel_rfl) (fun _ _ _ h => h) (Or.inl ⟨by rfl, ?_⟩) (by assumption) ?_
  rotate_left
  · (intro w hSw; (try dsimp only at hSw); go_simp; try with_reducible rfl)
  try simp only [Act.put, List.setIfInBounds_toArray, List.set_cons_zero, List.set_cons_succ]
  refine wpAnyH_ready (rs := [2]) (by kernel_rfl) (by simp) ?_
  refine AllReadyH.cons (o := _) rfl (fun K hK => ?_) AllReadyH.nil
  go_simp
  refine (ptos_spec t 0 0 _ (HT.out.below (by first | exact hn0 | exact bel_d hn0 | exact bel_d (bel_d hn0))) HS.out (by omega) (by omega) (by omega) (by omega)).mono ?_
  rintro e x1 ⟨hx1, u1, rfl, k1, c1⟩
  have hn1 : Below V.heap.size V x1 := bel_then (by first | exact hn0 | exact bel_d hn0 | exact bel_d (bel_d hn0)) hx1
  have j1_1 := Lib.hid k1.ok
  have m1 := Lib.hid c1
  clear k1 c1
  clear hx1 hn0
  go_wp2_with fail
  refine hK.out _ _ (KS.out _ hn1) (fun hHeld => ?_)
  clear hK K
  try simp only [Act.put, List.setIfInBounds_toArray, List.set_cons_zero, List.set_cons_succ]
  refine wpAnyH_ready (rs := [4]) (by kernel_rfl) (by simp) ?_
  refine AllReadyH.cons (o := _) rfl (fun K hK => ?_) AllReadyH.nil
  go_simp
  refine (psame_spec u1 t _ (j1_1.out.below (by first | exact Below.refl _ _ | exact bel_d (Below.refl _ _) | exact bel_d (bel_d (Below.refl _ _)))) (HT.out.below (by first | exact hn1 | exact bel_d hn1 | exact bel_d (bel_d hn1))) (m1.out.trans (con_toS_zero HT.out)) (m1.out ▸ Prox.toS_small HS.out _ _)).mono ?_
  rintro e x2 ⟨rfl, hx2⟩
  have hn2 : Below V.heap.size V x2 := bel_then (by first | exact hn1 | exact bel_d hn1 | exact bel_d (bel_d hn1)) hx2
  have j1_2 := Lib.hid ((j1_1.out.below (by first | exact Below.refl _ _ | exact bel_d (Below.refl _ _) | exact bel_d (bel_d (Below.refl _ _)))).below hx2)
  clear j1_1
  clear hx2 hn1
  go_wp2_with fail
  refine hK.out _ _ (KS.out _ hn2) (fun hHeld => ?_)
  clear hK K
  try simp only [Act.put, List.setIfInBounds_toArray, List.set_cons_zero, List.set_cons_succ]
  clear j1_2
  refine wpAnyH_takeD (i := 5) (some 29) (v := ?_) rfl rfl (by kernel_rfl) (by kernel_rfl) (by kernel_rfl) (fun _ _ _ h => h) (Or.inl ⟨by rfl, ?_⟩) (by assumption) ?_
  rotate_left
  · (intro w hSw; (try dsimp only at hSw); go_simp; try with_reducible rfl)
  try simp only [Act.put, List.setIfInBounds_toArray, List.set_cons_zero, List.set_cons_succ]
  refine wpAnyH_takeD (i := 6) (some 30) (v := ?_) rfl rfl (by kernel_rfl) (by kernel_rfl) (by kernel_rfl) (fun _ _ _ h => h) (Or.inl ⟨by rfl, ?_⟩) (by assumption) ?_
  rotate_left
  · (intro w hSw; (try dsimp only at hSw); go_simp; try with_reducible rfl)
  try simp only [Act.put, List.setIfInBounds_toArray, List.set_cons_zero, List.set_cons_succ]
  refine wpAnyH_takeD (i := 7) (some 31) (v := ?_) rfl rfl (by kernel_rfl) (by kernel_rfl) (by kernel_rfl) (fun _ _ _ h => h) (Or.inl ⟨by rfl, ?_⟩) (by assumption) ?_
  rotate_left
  · (intro w hSw; (try dsimp only at hSw); go_simp; try with_reducible rfl)
  try simp only [Act.put, List.setIfInBounds_toArray, List.set_cons_zero, List.set_cons_succ]
  refine wpAnyH_takeD (i := 9) (some 33) (v := ?_) rfl rfl (by kernel_rfl) (by kernel_rfl) (by kernel_rfl) (fun _ _ _ h => h) (Or.inl ⟨by rfl, ?_⟩) (by assumption) ?_
  rotate_left
  · (intro w hSw; (try dsimp only at hSw); go_simp; try with_reducible rfl)
  try simp only [Act.put, List.setIfInBounds_toArray, List.set_cons_zero, List.set_cons_succ]
  refine wpAnyH_ready (rs := [8]) (by kernel_rfl) (by simp) ?_
  refine AllReadyH.cons (o := _) rfl (fun K hK => ?_) AllReadyH.nil
  go_simp
  refine (ptoc_spec t 0 0 _ (HT.out.below (by first | exact hn2 | exact bel_d hn2 | exact bel_d (bel_d hn2))) HS.out (by omega) (by omega) (by omega) (by omega)).mono ?_
  rintro e x3 ⟨hx3, u2, rfl, k2, c2⟩
  have hn3 : Below V.heap.size V x3 := bel_then (by first | exact hn2 | exact bel_d hn2 | exact bel_d (bel_d hn2)) hx3
  have j2_3 := Lib.hid k2.ok
  have m2 := Lib.hid c2
  clear k2 c2
  clear hx3 hn2
  go_wp2_with fail
  refine hK.out _ _ (KS.out _ hn3) (fun hHeld => ?_)
  clear hK K
  try simp only [Act.put, List.setIfInBounds_toArray, List.set_cons_zero, List.set_cons_succ]
  refine wpAnyH_ready (rs := [10]) (by kernel_rfl) (by simp) ?_
  refine AllReadyH.cons (o := _) rfl (fun K hK => ?_) AllReadyH.nil
  go_simp
  refine (psame_spec u2 t _ (j2_3.out.below (by first | exact Below.refl _ _ | exact bel_d (Below.refl _ _) | exact bel_d (bel_d (Below.refl _ _)))) (HT.out.below (by first | exact hn3 | exact bel_d hn3 | exact bel_d (bel_d hn3))) (m2.out.trans (con_toC_zero HT.out)) (m2.out ▸ Prox.toC_small HS.out _ _)).mono ?_
  rintro e x4 ⟨rfl, hx4⟩
  have hn4 : Below V.heap.size V x4 := bel_then (by first | exact hn3 | exact bel_d hn3 | exact bel_d (bel_d hn3)) hx4
  have j2_4 := Lib.hid ((j2_3.out.below (by first | exact Below.refl _ _ | exact bel_d (Below.refl _ _) | exact bel_d (bel_d (Below.refl _ _)))).below hx4)
  clear j2_3
  clear hx4 hn3
  go_wp2_with fail
  refine hK.out _ _ (KS.out _ hn4) (fun hHeld => ?_)
  clear hK K
  try simp only [Act.put, List.setIfInBounds_toArray, List.set_cons_zero, List.set_cons_succ]
  clear j2_4
  refine wpAnyH_takeD (i := 11) (some 35) (v := ?_) rfl rfl (by kernel_rfl) (by kernel_rfl) (by kernel_rfl) (fun _ _ _ h => h) (Or.inl ⟨by rfl, ?_⟩) (by assumption) ?_
  rotate_left
  · (intro w hSw; (try dsimp only at hSw); go_simp; try with_reducible rfl)
  try simp only [Act.put, List.setIfInBounds_toArray, List.set_cons_zero, List.set_cons_succ]
  refine wpAnyH_takeD (i := 12) (some 36) (v := ?_) rfl rfl (by kernel_rfl) (by kernel_rfl) (by kernel_rfl) (fun _ _ _ h => h) (Or.inl ⟨by rfl, ?_⟩) (by assumption) ?_
  rotate_left
  · (intro w hSw; (try dsimp only at hSw); go_simp; try with_reducible rfl)
  try simp only [Act.put, List.setIfInBounds_toArray, List.set_cons_zero, List.set_cons_succ]
  refine wpAnyH_takeD (i := 13) (some 37) (v := ?_) rfl rfl (by kernel_rfl) (by kernel_rfl) (by kernel_rfl) (fun _ _ _ h => h) (Or.inl ⟨by rfl, ?_⟩) (by assumption) ?_
  rotate_left
  · (intro w hSw; (try dsimp only at hSw); go_simp; try with_reducible rfl)
  try simp only [Act.put, List.setIfInBounds_toArray, List.set_cons_zero, List.set_cons_succ]
  refine wpAnyH_takeD (i := 14) (some 38) (v := ?_) rfl rfl (by kernel_rfl) (by kernel_rfl) (by kernel_rfl) (fun _ _ _ h => h) (Or.inl ⟨by rfl, ?_⟩) (by assumption) ?_
  rotate_left
  · (intro w hSw; (try dsimp only at hSw); go_simp; try with_reducible rfl)
  try simp only [Act.put, List.setIfInBounds_toArray, List.set_cons_zero, List.set_cons_succ]
  refine wpAnyH_takeD (i := 16) (some 40) (v := ?_) rfl rfl (by kernel_rfl) (by kernel_rfl) (by kernel_rfl) (fun _ _ _ h => h) (Or.inl ⟨by rfl, ?_⟩) (by assumption) ?_
  rotate_left
  · (intro w hSw; (try dsimp only at hSw); go_simp; try with_reducible rfl)
  try simp only [Act.put, List.setIfInBounds_toArray, List.set_cons_zero, List.set_cons_succ]
  refine wpAnyH_takeD (i := 18) (some 42) (v := ?_) rfl rfl (by kernel_rfl) (by kernel_rfl) (by kernel_rfl) (fun _ _ _ h => h) (Or.inl ⟨by rfl, ?_⟩) (by assumption) ?_
  rotate_left
  · (intro w hSw; (try dsimp only at hSw); go_simp; try with_reducible rfl)
  try simp only [Act.put, List.setIfInBounds_toArray, List.set_cons_zero, List.set_cons_succ]
  refine wpAnyH_takeD (i := 19) (some 43) (v := ?_) rfl rfl (by kernel_rfl) (by kernel_rfl) (by kernel_rfl) (fun _ _ _ h => h) (Or.inl ⟨by rfl, ?_⟩) (by assumption) ?_
  rotate_left
  · (intro w hSw; (try dsimp only at hSw); go_simp; try with_reducible rfl)
  try simp only [Act.put, List.setIfInBounds_toArray, List.set_cons_zero, List.set_cons_succ]
  refine wpAnyH_ready (rs := [15]) (by kernel_rfl) (by simp) ?_
  refine AllReadyH.cons (o := _) rfl (fun K hK => ?_) AllReadyH.nil
  go_simp
  refine (ptos_spec t s st _ (HT.out.below (by first | exact hn4 | exact bel_d hn4 | exact bel_d (bel_d hn4))) HS.out h0 h1 h2 h3).mono ?_
  rintro e x5 ⟨hx5, u3, rfl, k3, c3⟩
  have hn5 : Below V.heap.size V x5 := bel_then (by first | exact hn4 | exact bel_d hn4 | exact bel_d (bel_d hn4)) hx5
  have j3_5 := Lib.hid k3.ok
  have m3 := Lib.hid c3
  clear k3 c3
  clear hx5 hn4
  go_wp2_with fail
  refine hK.out _ _ (KS.out _ hn5) (fun hHeld => ?_)
  clear hK K
  try simp only [Act.put, List.setIfInBounds_toArray, List.set_cons_zero, List.set_cons_succ]
  refine wpAnyH_ready (rs := [17]) (by kernel_rfl) (by simp) ?_
  refine AllReadyH.cons (o := _) rfl (fun K hK => ?_) AllReadyH.nil
  go_simp
  refine (ptos_spec u3 q qt _ (j3_5.out.below (by first | exact Below.refl _ _ | exact bel_d (Below.refl _ _) | exact bel_d (bel_d (Below.refl _ _)))) (m3.out ▸ Prox.toS_small HS.out _ _) h4 h5 h6 h7).mono ?_
  rintro e x6 ⟨hx6, u4, rfl, k4, c4⟩
  have hn6 : Below V.heap.size V x6 := bel_then (by first | exact hn5 | exact bel_d hn5 | exact bel_d (bel_d hn5)) hx6
  have j3_6 := Lib.hid ((j3_5.out.below (by first | exact Below.refl _ _ | exact bel_d (Below.refl _ _) | exact bel_d (bel_d (Below.refl _ _)))).below hx6)
  clear j3_5
  have j4_6 := Lib.hid k4.ok
  have m4 := Lib.hid c4
  clear k4 c4
  clear hx6 hn5
  go_wp2_with fail
  refine hK.out _ _ (KS.out _ hn6) (fun hHeld => ?_)
  clear hK K
  try simp only [Act.put, List.setIfInBounds_toArray, List.set_cons_zero, List.set_cons_succ]
  clear j3_6
  refine wpAnyH_ready (rs := [20]) (by kernel_rfl) (by simp) ?_
  refine AllReadyH.cons (o := _) rfl (fun K hK => ?_) AllReadyH.nil
  go_simp
  refine (ptos_spec t _ _ _ (HT.out.below (by first | exact hn6 | exact bel_d hn6 | exact bel_d (bel_d hn6))) HS.out hu0.1 hu0.2 hu1.1 hu1.2).mono ?_
  rintro e x7 ⟨hx7, u5, rfl, k5, c5⟩
  have hn7 : Below V.heap.size V x7 := bel_then (by first | exact hn6 | exact bel_d hn6 | exact bel_d (bel_d hn6)) hx7
  have j4_7 := Lib.hid ((j4_6.out.below (by first | exact Below.refl _ _ | exact bel_d (Below.refl _ _) | exact bel_d (bel_d (Below.refl _ _)))).below hx7)
  clear j4_6
  have j5_7 := Lib.hid k5.ok
  have m5 := Lib.hid c5
  clear k5 c5
  clear hx7 hn6
  go_wp2_with fail
  refine hK.out _ _ (KS.out _ hn7) (fun hHeld => ?_)
  clear hK K
  try simp only [Act.put, List.setIfInBounds_toArray, List.set_cons_zero, List.set_cons_succ]
  refine wpAnyH_ready (rs := [21]) (by kernel_rfl) (by simp) ?_
  refine AllReadyH.cons (o := _) rfl (fun K hK => ?_) AllReadyH.nil
  go_simp
  refine (psame_spec u4 u5 _ (j4_7.out.below (by first | exact Below.refl _ _ | exact bel_d (Below.refl _ _) | exact bel_d (bel_d (Below.refl _ _)))) (j5_7.out.below (by first | exact Below.refl _ _ | exact bel_d (Below.refl _ _) | exact bel_d (bel_d (Below.refl _ _)))) (by rw [m4.out, m3.out, m5.out, Prox.toS_toS]) (m4.out ▸ Prox.toS_small (m3.out ▸ Prox.toS_small HS.out _ _) _ _)).mono ?_
  rintro e x8 ⟨rfl, hx8⟩
  have hn8 : Below V.heap.size V x8 := bel_then (by first | exact hn7 | exact bel_d hn7 | exact bel_d (bel_d hn7)) hx8
  have j4_8 := Lib.hid ((j4_7.out.below (by first | exact Below.refl _ _ | exact bel_d (Below.refl _ _) | exact bel_d (bel_d (Below.refl _ _)))).below hx8)
  clear j4_7
  have j5_8 := Lib.hid ((j5_7.out.below (by first | exact Below.refl _ _ | exact bel_d (Below.refl _ _) | exact bel_d (bel_d (Below.refl _ _)))).below hx8)
  clear j5_7
  clear hx8 hn7
  go_wp2_with fail
  refine hK.out _ _ (KS.out _ hn8) (fun hHeld => ?_)
  clear hK K
  try simp only [Act.put, List.setIfInBounds_toArray, List.set_cons_zero, List.set_cons_succ]
  clear j4_8
  clear j5_8
  refine wpAnyH_takeD (i := 22) (some 46) (v := ?_) rfl rfl (by kernel_rfl) (by kernel_rfl) (by kernel_rfl) (fun _ _ _ h => h) (Or.inl ⟨by rfl, ?_⟩) (by assumption) ?_
  rotate_left
  · (intro w hSw; (try dsimp only at hSw); go_simp; try with_reducible rfl)
  try simp only [Act.put, List.setIfInBounds_toArray, List.set_cons_zero, List.set_cons_succ]
  refine wpAnyH_takeD (i := 23) (some 47) (v := ?_) rfl rfl (by kernel_rfl) (by kernel_rfl) (by kernel_rfl) (fun _ _ _ h => h) (Or.inl ⟨by rfl, ?_⟩) (by assumption) ?_
  rotate_left
  · (intro w hSw; (try dsimp only at hSw); go_simp; try with_reducible rfl)
  try simp only [Act.put, List.setIfInBounds_toArray, List.set_cons_zero, List.set_cons_succ]
  refine wpAnyH_takeD (i := 24) (some 48) (v := ?_) rfl rfl (by kernel_rfl) (by kernel_rfl) (by kernel_rfl) (fun _ _ _ h => h) (Or.inl ⟨by rfl, ?_⟩) (by assumption) ?_
  rotate_left
  · (intro w hSw; (try dsimp only at hSw); go_simp; try with_reducible rfl)
  try simp only [Act.put, List.setIfInBounds_toArray, List.set_cons_zero, List.set_cons_succ]
  refine wpAnyH_takeD (i := 25) (some 49) (v := ?_) rfl rfl (by kernel_rfl) (by kernel_rfl) (by kernel_rfl) (fun _ _ _ h => h) (Or.inl ⟨by rfl, ?_⟩) (by assumption) ?_
  rotate_left
  · (intro w hSw; (try dsimp only at hSw); go_simp; try with_reducible rfl)
  try simp only [Act.put, List.setIfInBounds_toArray, List.set_cons_zero, List.set_cons_succ]
  refine wpAnyH_takeD (i := 27) (some 51) (v := ?_) rfl rfl (by kernel_rfl) (by kernel_rfl) (by kernel_rfl) (fun _ _ _ h => h) (Or.inl ⟨by rfl, ?_⟩) (by assumption) ?_
  rotate_left
  · (intro w hSw; (try dsimp only at hSw); go_simp; try with_reducible rfl)
  try simp only [Act.put, List.setIfInBounds_toArray, List.set_cons_zero, List.set_cons_succ]
  refine wpAnyH_takeD (i := 29) (some 53) (v := ?_) rfl rfl (by kernel_rfl) (by kernel_rfl) (by kernel_rfl) (fun _ _ _ h => h) (Or.inl ⟨by rfl, ?_⟩) (by assumption) ?_
  rotate_left
  · (intro w hSw; (try dsimp only at hSw); go_simp; try with_reducible rfl)
  try simp only [Act.put, List.setIfInBounds_toArray, List.set_cons_zero, List.set_cons_succ]
  refine wpAnyH_takeD (i := 30) (some 54) (v := ?_) rfl rfl (by kernel_rfl) (by kernel_rfl) (by kernel_rfl) (fun _ _ _ h => h) (Or.inl ⟨by rfl, ?_⟩) (by assumption) ?_
  rotate_left
  · (intro w hSw; (try dsimp only at hSw); go_simp; try with_reducible rfl)
  try simp only [Act.put, List.setIfInBounds_toArray, List.set_cons_zero, List.set_cons_succ]
  refine wpAnyH_ready (rs := [26]) (by kernel_rfl) (by simp) ?_
  refine AllReadyH.cons (o := _) rfl (fun K hK => ?_) AllReadyH.nil
  go_simp
  refine (ptoc_spec t s st _ (HT.out.below (by first | exact hn8 | exact bel_d hn8 | exact bel_d (bel_d hn8))) HS.out h0 h1 h2 h3).mono ?_
  rintro e x9 ⟨hx9, u6, rfl, k6, c6⟩
  have hn9 : Below V.heap.size V x9 := bel_then (by first | exact hn8 | exact bel_d hn8 | exact bel_d (bel_d hn8)) hx9
  have j6_9 := Lib.hid k6.ok
  have m6 := Lib.hid c6
  clear k6 c6
  clear hx9 hn8
  go_wp2_with fail
  refine hK.out _ _ (KS.out _ hn9) (fun hHeld => ?_)
  clear hK K
  try simp only [Act.put, List.setIfInBounds_toArray, List.set_cons_zero, List.set_cons_succ]
  refine wpAnyH_ready (rs := [28]) (by kernel_rfl) (by simp) ?_
  refine AllReadyH.cons (o := _) rfl (fun K hK => ?_) AllReadyH.nil
  go_simp
  refine (ptoc_spec u6 q qt _ (j6_9.out.below (by first | exact Below.refl _ _ | exact bel_d (Below.refl _ _) | exact bel_d (bel_d (Below.refl _ _)))) (m6.out ▸ Prox.toC_small HS.out _ _) h4 h5 h6 h7).mono ?_
  rintro e x10 ⟨hx10, u7, rfl, k7, c7⟩
  have hn10 : Below V.heap.size V x10 := bel_then (by first | exact hn9 | exact bel_d hn9 | exact bel_d (bel_d hn9)) hx10
  have j6_10 := Lib.hid ((j6_9.out.below (by first | exact Below.refl _ _ | exact bel_d (Below.refl _ _) | exact bel_d (bel_d (Below.refl _ _)))).below hx10)
  clear j6_9
  have j7_10 := Lib.hid k7.ok
  have m7 := Lib.hid c7
  clear k7 c7
  clear hx10 hn9
  go_wp2_with fail
  refine hK.out _ _ (KS.out _ hn10) (fun hHeld => ?_)
  clear hK K
  try simp only [Act.put, List.setIfInBounds_toArray, List.set_cons_zero, List.set_cons_succ]
  clear j6_10
  refine wpAnyH_ready (rs := [31]) (by kernel_rfl) (by simp) ?_
  refine AllReadyH.cons (o := _) rfl (fun K hK => ?_) AllReadyH.nil
  go_simp
  refine (ptoc_spec t _ _ _ (HT.out.below (by first | exact hn10 | exact bel_d hn10 | exact bel_d (bel_d hn10))) HS.out hu0.1 hu0.2 hu1.1 hu1.2).mono ?_
  rintro e x11 ⟨hx11, u8, rfl, k8, c8⟩
  have hn11 : Below V.heap.size V x11 := bel_then (by first | exact hn10 | exact bel_d hn10 | exact bel_d (bel_d hn10)) hx11
  have j7_11 := Lib.hid ((j7_10.out.below (by first | exact Below.refl _ _ | exact bel_d (Below.refl _ _) | exact bel_d (bel_d (Below.refl _ _)))).below hx11)
  clear j7_10
  have j8_11 := Lib.hid k8.ok
  have m8 := Lib.hid c8
  clear k8 c8
  clear hx11 hn10
  go_wp2_with fail
  refine hK.out _ _ (KS.out _ hn11) (fun hHeld => ?_)
  clear hK K
  try simp only [Act.put, List.setIfInBounds_toArray, List.set_cons_zero, List.set_cons_succ]
  refine wpAnyH_ready (rs := [32]) (by kernel_rfl) (by simp) ?_
  refine AllReadyH.cons (o := _) rfl (fun K hK => ?_) AllReadyH.nil
  go_simp
  refine (psame_spec u7 u8 _ (j7_11.out.below (by first | exact Below.refl _ _ | exact bel_d (Below.refl _ _) | exact bel_d (bel_d (Below.refl _ _)))) (j8_11.out.below (by first | exact Below.refl _ _ | exact bel_d (Below.refl _ _) | exact bel_d (bel_d (Below.refl _ _)))) (by rw [m7.out, m6.out, m8.out, Prox.toC_toC]) (m7.out ▸ Prox.toC_small (m6.out ▸ Prox.toC_small HS.out _ _) _ _)).mono ?_
  rintro e x12 ⟨rfl, hx12⟩
  have hn12 : Below V.heap.size V x12 := bel_then (by first | exact hn11 | exact bel_d hn11 | exact bel_d (bel_d hn11)) hx12
  have j7_12 := Lib.hid ((j7_11.out.below (by first | exact Below.refl _ _ | exact bel_d (Below.refl _ _) | exact bel_d (bel_d (Below.refl _ _)))).below hx12)
  clear j7_11
  have j8_12 := Lib.hid ((j8_11.out.below (by first | exact Below.refl _ _ | exact bel_d (Below.refl _ _) | exact bel_d (bel_d (Below.refl _ _)))).below hx12)
  clear j8_11
  clear hx12 hn11
  go_wp2_with fail
  refine hK.out _ _ (KS.out _ hn12) (fun hHeld => ?_)
  clear hK K
  try simp only [Act.put, List.setIfInBounds_toArray, List.set_cons_zero, List.set_cons_succ]
  clear j7_12
  clear j8_12
  refine wpAnyH_takeD (i := 33) (some 57) (v := ?_) rfl rfl (by kernel_rfl) (by kernel_rfl) (by kernel_rfl) (fun _ _ _ h => h) (Or.inl ⟨by rfl, ?_⟩) (by assumption) ?_
  rotate_left
  · (intro w hSw; (try dsimp only at hSw); go_simp; try with_reducible rfl)
  try simp only [Act.put, List.setIfInBounds_toArray, List.set_cons_zero, List.set_cons_succ]
  refine wpAnyH_takeD (i := 34) (some 6) (v := ?_) rfl rfl (by kernel_rfl) (by kernel_rfl) (by kernel_rfl) (fun _ _ _ h => h) (Or.inl ⟨by rfl, ?_⟩) (by assumption) ?_
  rotate_left
  · (intro w hSw; (try dsimp only at hSw); go_simp; try with_reducible rfl)
  try simp only [Act.put, List.setIfInBounds_toArray, List.set_cons_zero, List.set_cons_succ]
  refine wpAnyH_done (by kernel_rfl) ?_ _
  clear hHeld KS
  go_wp2_with fail
  go_ret
  exact ⟨rfl, bel_then hbV (by first | exact hn12 | exact bel_d hn12 | exact bel_d (bel_d hn12))⟩
end Go.Proofs.Ytklefgcackchiaa
