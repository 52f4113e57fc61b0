/- The walks of proxy.words, Learn (where the server answers), and of the proxy laws' awake. -/
import Derived.Test.YtpidpbjbgjkaaaaDoorJ4
import Derived.Deep.DeepCutAuto
namespace Go.Proofs.YtpidpbjbgjkaaaaDoor
open Go.RowKit
set_option maxRecDepth 8000
set_option linter.unusedVariables false
set_option linter.unusedSimpArgs false
theorem pwords_spec (t : Tcp.T) (w : World) : Calls Tryd.prog 25 #[.agg #[.int .i64 t.sp, .int .i64 t.dp, .int .u32 t.sq, .int .u32 t.ak, .int .i64 t.fl, .int .i64 t.wi, .int .i64 t.ur, .slice t.Ao t.no t.co, .slice t.Ab t.nb t.cb]] w fun e w' => e = .returned (.int .i64 (Go.bits .and .i64 t.fl 23)) ∧ Below w.heap.size w w' := by
  obtain ⟨W, hW⟩ : ∃ W, W = w.alloc (.cells #[.int .i64 t.sp, .int .i64 t.dp, .int .u32 t.sq, .int .u32 t.ak, .int .i64 t.fl, .int .i64 t.wi, .int .i64 t.ur, .slice t.Ao t.no t.co, .slice t.Ab t.nb t.cb] 29) := ⟨_, rfl⟩
  have hbW : Below w.heap.size w W := by rw [hW]; exact (Below.refl _ _).alloc (Nat.le_refl _) _
  have c4 := (show BlkV W w.heap.size 29 [.int .i64 t.sp, .int .i64 t.dp, .int .u32 t.sq, .int .u32 t.ak, .int .i64 t.fl, .int .i64 t.wi, .int .i64 t.ur, .slice t.Ao t.no t.co, .slice t.Ab t.nb t.cb] by rw [hW]; exact BlkV.new w _ _).cell (i := 4) rfl
  go_enter Tryd.func25, Tryd.ntmps25
  go_upto_region 1 with (fail)
  rw [← hW]
  clear hW
  go_wp2_with fail
  go_ret
  exact ⟨rfl, hbW⟩
def LearnR (t u : Tcp.T) (st : Int) (w : World) (e : Ending) (w' : World) : Prop :=
  e = .returned (.tuple #[.agg #[.int .u32 ((u.sq - Seq.step t.ak (-1)) % 4294967296), .int .u32 st], .agg #[.int .i64 u.dp, .int .i64 u.sp, .int .u32 u.ak, .int .u32 (Seq.step u.sq 1), .int .i64 16, .int .i64 t.wi, .int .i64 0, .slice none 0 0, .slice none 0 0], .int .i64 0]) ∧ Below w.heap.size w w'
set_option maxHeartbeats 4000000 in
theorem plearn_spec (t u : Tcp.T) (st : Int) (w : World) (h1 : Hid (Go.bits .and .i64 t.fl 23 = 16)) (h2 : Hid (Go.bits .and .i64 u.fl 23 = 18)) (h3 : Hid (u.ak = t.sq)) :
    Calls Tryd.prog 15 #[.agg #[.int .i64 t.sp, .int .i64 t.dp, .int .u32 t.sq, .int .u32 t.ak, .int .i64 t.fl, .int .i64 t.wi, .int .i64 t.ur, .slice t.Ao t.no t.co, .slice t.Ab t.nb t.cb], .agg #[.int .i64 u.sp, .int .i64 u.dp, .int .u32 u.sq, .int .u32 u.ak, .int .i64 u.fl, .int .i64 u.wi, .int .i64 u.ur, .slice u.Ao u.no u.co, .slice u.Ab u.nb u.cb], .int .u32 st] w (LearnR t u st w) := by
  obtain ⟨W, hW⟩ : ∃ W, W = (((w.alloc (.cells #[.int .i64 t.sp, .int .i64 t.dp, .int .u32 t.sq, .int .u32 t.ak, .int .i64 t.fl, .int .i64 t.wi, .int .i64 t.ur, .slice t.Ao t.no t.co, .slice t.Ab t.nb t.cb] 29)).alloc (.cells #[.int .i64 u.sp, .int .i64 u.dp, .int .u32 u.sq, .int .u32 u.ak, .int .i64 u.fl, .int .i64 u.wi, .int .i64 u.ur, .slice u.Ao u.no u.co, .slice u.Ab u.nb u.cb] 29)).alloc (.cells #[.int .u32 0, .int .u32 0] 31)).alloc (.cells #[.int .i64 0, .int .i64 0, .int .u32 0, .int .u32 0, .int .i64 0, .int .i64 0, .int .i64 0, .slice none 0 0, .slice none 0 0] 29) := ⟨_, rfl⟩
  have hbW : Below w.heap.size w W := by rw [hW]; exact ((((Below.refl _ _).alloc (Nat.le_refl _) _).alloc (by simp) _).alloc (by simp; omega) _).alloc (by simp; omega) _
  have hWs : w.heap.size + 3 < W.heap.size := by rw [hW]; simp
  have B0 : BlkV W w.heap.size 29 [.int .i64 t.sp, .int .i64 t.dp, .int .u32 t.sq, .int .u32 t.ak, .int .i64 t.fl, .int .i64 t.wi, .int .i64 t.ur, .slice t.Ao t.no t.co, .slice t.Ab t.nb t.cb] := by rw [hW]; exact (((BlkV.new w _ _).alloc _).alloc _).alloc _
  have B1 : BlkV W (w.heap.size + 1) 29 [.int .i64 u.sp, .int .i64 u.dp, .int .u32 u.sq, .int .u32 u.ak, .int .i64 u.fl, .int .i64 u.wi, .int .i64 u.ur, .slice u.Ao u.no u.co, .slice u.Ab u.nb u.cb] := by rw [hW]; exact ((BlkV.new_at (w.alloc (.cells #[.int .i64 t.sp, .int .i64 t.dp, .int .u32 t.sq, .int .u32 t.ak, .int .i64 t.fl, .int .i64 t.wi, .int .i64 t.ur, .slice t.Ao t.no t.co, .slice t.Ab t.nb t.cb] 29)) _ _ (by simp)).alloc _).alloc _
  have B2 : BlkV W (w.heap.size + 1 + 1) 31 [.int .u32 0, .int .u32 0] := by rw [hW]; exact (BlkV.new_at ((w.alloc (.cells #[.int .i64 t.sp, .int .i64 t.dp, .int .u32 t.sq, .int .u32 t.ak, .int .i64 t.fl, .int .i64 t.wi, .int .i64 t.ur, .slice t.Ao t.no t.co, .slice t.Ab t.nb t.cb] 29)).alloc (.cells #[.int .i64 u.sp, .int .i64 u.dp, .int .u32 u.sq, .int .u32 u.ak, .int .i64 u.fl, .int .i64 u.wi, .int .i64 u.ur, .slice u.Ao u.no u.co, .slice u.Ab u.nb u.cb] 29)) _ _ (by simp)).alloc _
  have B3 : BlkV W (w.heap.size + 1 + 1 + 1) 29 [.int .i64 0, .int .i64 0, .int .u32 0, .int .u32 0, .int .i64 0, .int .i64 0, .int .i64 0, .slice none 0 0, .slice none 0 0] := by rw [hW]; exact BlkV.new_at (((w.alloc (.cells #[.int .i64 t.sp, .int .i64 t.dp, .int .u32 t.sq, .int .u32 t.ak, .int .i64 t.fl, .int .i64 t.wi, .int .i64 t.ur, .slice t.Ao t.no t.co, .slice t.Ab t.nb t.cb] 29)).alloc (.cells #[.int .i64 u.sp, .int .i64 u.dp, .int .u32 u.sq, .int .u32 u.ak, .int .i64 u.fl, .int .i64 u.wi, .int .i64 u.ur, .slice u.Ao u.no u.co, .slice u.Ab u.nb u.cb] 29)).alloc (.cells #[.int .u32 0, .int .u32 0] 31)) _ _ (by simp)
  have HW1 := Lib.hid (fun w => pwords_spec t w)
  have HW2 := Lib.hid (fun w => pwords_spec u w)
  rw [h1.out] at HW1
  rw [h2.out] at HW2
  have hq3 : (u.ak != t.sq) = false := by rw [h3.out]; simp
  clear h1 h2 h3
  have HS1 := Lib.hid (fun w => seq_step t.ak (-1) w)
  have HS2 := Lib.hid (fun w => seq_step u.sq 1 w)
  go_enter Tryd.func15, Tryd.ntmps15
  go_upto_region 1 with (fail)
  rw [← hW]
  clear hW
  go_wp2_with (refine wpList_ldB 29 _ _ (by with_reducible rfl) rfl (by rfl) B0 Tryd.underlying29 rfl (tcp_size (by rfl)) ?_)
  refine (HW1.out W).mono ?_
  rintro e w1 ⟨rfl, hb1⟩
  obtain ⟨c0, c1, c2, c3, c4, c5, c6, c7, c8⟩ := cells9' (B1.below hb1)
  have B0a := B0.below hb1
  have B1a := B1.below hb1
  have B2a := B2.below hb1
  have B3a := B3.below hb1
  have hbw1 := bel_then hbW hb1
  have hs1 := hb1.size
  clear B0 B1 B2 B3 hbW hb1
  go_wp2_with fail
  refine (HW2.out w1).mono ?_
  rintro e w2 ⟨rfl, hb2⟩
  have B0 := B0a.below hb2
  have B1 := B1a.below hb2
  have B2 := B2a.below hb2
  have B3 := B3a.below hb2
  have hbw2 := bel_then hbw1 hb2
  have hs2 := hb2.size
  clear B0a B1a B2a B3a hbw1 hb2 HW1 HW2 c0 c1 c2 c3 c4 c5 c6 c7 c8
  have d2 := B0.cell (i := 2) rfl
  have e3 := B1.cell (i := 3) rfl
  have KS : Hid (∀ w' : World, BlkV w' w.heap.size 29 [.int .i64 t.sp, .int .i64 t.dp, .int .u32 t.sq, .int .u32 t.ak, .int .i64 t.fl, .int .i64 t.wi, .int .i64 t.ur, .slice t.Ao t.no t.co, .slice t.Ab t.nb t.cb] → BlkV w' (w.heap.size + 1) 29 [.int .i64 u.sp, .int .i64 u.dp, .int .u32 u.sq, .int .u32 u.ak, .int .i64 u.fl, .int .i64 u.wi, .int .i64 u.ur, .slice u.Ao u.no u.co, .slice u.Ab u.nb u.cb] → (w'.cell? ⟨w.heap.size, 3, none⟩ = some (.int .u32 t.ak) ∧ w'.cell? ⟨w.heap.size, 5, none⟩ = some (.int .i64 t.wi) ∧ w'.cell? ⟨w.heap.size + 1, 0, none⟩ = some (.int .i64 u.sp) ∧ w'.cell? ⟨w.heap.size + 1, 1, none⟩ = some (.int .i64 u.dp) ∧ w'.cell? ⟨w.heap.size + 1, 2, none⟩ = some (.int .u32 u.sq) ∧ w'.cell? ⟨w.heap.size + 1, 3, none⟩ = some (.int .u32 u.ak))) := Lib.hid fun w' h k => ⟨h.cell rfl, h.cell rfl, k.cell rfl, k.cell rfl, k.cell rfl, k.cell rfl⟩
  have KB : Hid (∀ w' : World, Below w2.heap.size w2 w' → (w'.cell? ⟨w.heap.size, 3, none⟩ = some (.int .u32 t.ak) ∧ w'.cell? ⟨w.heap.size, 5, none⟩ = some (.int .i64 t.wi) ∧ w'.cell? ⟨w.heap.size + 1, 0, none⟩ = some (.int .i64 u.sp) ∧ w'.cell? ⟨w.heap.size + 1, 1, none⟩ = some (.int .i64 u.dp) ∧ w'.cell? ⟨w.heap.size + 1, 2, none⟩ = some (.int .u32 u.sq) ∧ w'.cell? ⟨w.heap.size + 1, 3, none⟩ = some (.int .u32 u.ak))) := Lib.hid fun w' hb => KS.out w' (B0.below hb) (B1.below hb)
  have hbn : Below w2.heap.size w2 w2 := Below.refl _ _
  go_upto_region 3 with (fail)
  go_cut [9] (fun s9 wx => ∃ p, s9 = .pointer (some ⟨p, 0, none⟩) ∧ w2.heap.size ≤ p ∧ Below w2.heap.size w2 wx ∧ BlkV wx p 31 [.int .u32 ((u.sq - Seq.step t.ak (-1)) % 4294967296), .int .u32 st])
  case first =>
    go_region_held3 (fun w' => (w'.cell? ⟨w.heap.size, 3, none⟩ = some (.int .u32 t.ak) ∧ w'.cell? ⟨w.heap.size, 5, none⟩ = some (.int .i64 t.wi) ∧ w'.cell? ⟨w.heap.size + 1, 0, none⟩ = some (.int .i64 u.sp) ∧ w'.cell? ⟨w.heap.size + 1, 1, none⟩ = some (.int .i64 u.dp) ∧ w'.cell? ⟨w.heap.size + 1, 2, none⟩ = some (.int .u32 u.sq) ∧ w'.cell? ⟨w.heap.size + 1, 3, none⟩ = some (.int .u32 u.ak))) (exact KB.out _ (by repeat (first | with_reducible exact hbn | with_reducible exact Below.refl w2.heap.size w2 | with_reducible refine bel_a ?_ _ | with_reducible refine bel_d ?_ | with_reducible refine bel_n ?_ _ | refine Below.setCell ?_ (by simp) _)))
      (with_reducible first | (refine (HS1.out _).mono ?_; rintro e w' ⟨rfl, rfl⟩))
    all_goals go_wp2_with fail
    all_goals go_meet
    all_goals exact ⟨_, rfl, Nat.le_refl _, bel_d (bel_a (Below.refl _ _) _), BlkV.new w2 _ _⟩
  case rest =>
  obtain ⟨p, rfl, hp, hb3, B4⟩ := hcut
  have B0d := B0.below hb3
  have B1d := B1.below hb3
  have B2d := B2.below hb3
  have B3d := B3.below hb3
  have hbw3 := bel_then hbw2 hb3
  have hs3 := hb3.size
  clear B0 B1 B2 B3 hbw2 hb3 KS KB hbn d2 e3 HS1
  have KD : Hid (∀ w' : World, BlkV w' w.heap.size 29 [.int .i64 t.sp, .int .i64 t.dp, .int .u32 t.sq, .int .u32 t.ak, .int .i64 t.fl, .int .i64 t.wi, .int .i64 t.ur, .slice t.Ao t.no t.co, .slice t.Ab t.nb t.cb] → BlkV w' (w.heap.size + 1) 29 [.int .i64 u.sp, .int .i64 u.dp, .int .u32 u.sq, .int .u32 u.ak, .int .i64 u.fl, .int .i64 u.wi, .int .i64 u.ur, .slice u.Ao u.no u.co, .slice u.Ab u.nb u.cb] → BlkV w' p 31 [.int .u32 ((u.sq - Seq.step t.ak (-1)) % 4294967296), .int .u32 st] → (w'.cell? ⟨w.heap.size, 5, none⟩ = some (.int .i64 t.wi) ∧ w'.cell? ⟨w.heap.size + 1, 0, none⟩ = some (.int .i64 u.sp) ∧ w'.cell? ⟨w.heap.size + 1, 1, none⟩ = some (.int .i64 u.dp) ∧ w'.cell? ⟨w.heap.size + 1, 2, none⟩ = some (.int .u32 u.sq) ∧ w'.cell? ⟨w.heap.size + 1, 3, none⟩ = some (.int .u32 u.ak) ∧ w'.cell? ⟨p, 0, none⟩ = some (.int .u32 ((u.sq - Seq.step t.ak (-1)) % 4294967296)) ∧ w'.cell? ⟨p, 1, none⟩ = some (.int .u32 st))) := Lib.hid fun w' h k l => ⟨h.cell rfl, k.cell rfl, k.cell rfl, k.cell rfl, k.cell rfl, l.cell rfl, l.cell rfl⟩
  have hp0 : p ≠ w.heap.size + 1 + 1 := by omega
  have hp1 : p ≠ w.heap.size + 1 + 1 + 1 := by omega
  go_upto_region 4 with (fail)
  refine wp_region_held_drew (S := fun w' => (w'.cell? ⟨w.heap.size, 5, none⟩ = some (.int .i64 t.wi) ∧ w'.cell? ⟨w.heap.size + 1, 0, none⟩ = some (.int .i64 u.sp) ∧ w'.cell? ⟨w.heap.size + 1, 1, none⟩ = some (.int .i64 u.dp) ∧ w'.cell? ⟨w.heap.size + 1, 2, none⟩ = some (.int .u32 u.sq) ∧ w'.cell? ⟨w.heap.size + 1, 3, none⟩ = some (.int .u32 u.ak) ∧ w'.cell? ⟨p, 0, none⟩ = some (.int .u32 ((u.sq - Seq.step t.ak (-1)) % 4294967296)) ∧ w'.cell? ⟨p, 1, none⟩ = some (.int .u32 st))) (by kernel_rfl) (KD.out _ B0d B1d B4) (fun hHeld => ?_)
  refine wpAnyH_takeD (i := 0) (some 35) (v := ?_) rfl rfl (by kernel_rfl) (by kernel_rfl) (by kernel_rfl) (fun _ _ _ h => h) (Or.inl ⟨by rfl, ?_⟩) (by assumption) ?_
  rotate_left
  · (intro w hSw; (try dsimp only at hSw); go_simp; try with_reducible rfl)
  try simp only [Act.put, List.setIfInBounds_toArray, List.set_cons_zero, List.set_cons_succ]
  refine wpAnyH_takeD (i := 1) (some 36) (v := ?_) rfl rfl (by kernel_rfl) (by kernel_rfl) (by kernel_rfl) (fun _ _ _ h => h) (Or.inl ⟨by rfl, ?_⟩) (by assumption) ?_
  rotate_left
  · (intro w hSw; (try dsimp only at hSw); go_simp; try with_reducible rfl)
  try simp only [Act.put, List.setIfInBounds_toArray, List.set_cons_zero, List.set_cons_succ]
  refine wpAnyH_takeD (i := 2) (some 37) (v := ?_) rfl rfl (by kernel_rfl) (by kernel_rfl) (by kernel_rfl) (fun _ _ _ h => h) (Or.inl ⟨by rfl, ?_⟩) (by assumption) ?_
  rotate_left
  · (intro w hSw; (try dsimp only at hSw); go_simp; try with_reducible rfl)
  try simp only [Act.put, List.setIfInBounds_toArray, List.set_cons_zero, List.set_cons_succ]
  refine wpAnyH_takeD (i := 3) (some 38) (v := ?_) rfl rfl (by kernel_rfl) (by kernel_rfl) (by kernel_rfl) (fun _ _ _ h => h) (Or.inl ⟨by rfl, ?_⟩) (by assumption) ?_
  rotate_left
  · (intro w hSw; (try dsimp only at hSw); go_simp; try with_reducible rfl)
  try simp only [Act.put, List.setIfInBounds_toArray, List.set_cons_zero, List.set_cons_succ]
  refine wpAnyH_takeD (i := 4) (some 39) (v := ?_) rfl rfl (by kernel_rfl) (by kernel_rfl) (by kernel_rfl) (fun _ _ _ h => h) (Or.inl ⟨by rfl, ?_⟩) (by assumption) ?_
  rotate_left
  · (intro w hSw; (try dsimp only at hSw); go_simp; try with_reducible rfl)
  try simp only [Act.put, List.setIfInBounds_toArray, List.set_cons_zero, List.set_cons_succ]
  refine wpAnyH_takeD (i := 5) (some 40) (v := ?_) rfl rfl (by kernel_rfl) (by kernel_rfl) (by kernel_rfl) (fun _ _ _ h => h) (Or.inl ⟨by rfl, ?_⟩) (by assumption) ?_
  rotate_left
  · (intro w hSw; (try dsimp only at hSw); go_simp; try with_reducible rfl)
  try simp only [Act.put, List.setIfInBounds_toArray, List.set_cons_zero, List.set_cons_succ]
  refine wpAnyH_takeD (i := 6) (some 41) (v := ?_) rfl rfl (by kernel_rfl) (by kernel_rfl) (by kernel_rfl) (fun _ _ _ h => h) (Or.inl ⟨by rfl, ?_⟩) (by assumption) ?_
  rotate_left
  · (intro w hSw; (try dsimp only at hSw); go_simp; try with_reducible rfl)
  try simp only [Act.put, List.setIfInBounds_toArray, List.set_cons_zero, List.set_cons_succ]
  refine wpAnyH_takeD (i := 7) (some 42) (v := ?_) rfl rfl (by kernel_rfl) (by kernel_rfl) (by kernel_rfl) (fun _ _ _ h => h) (Or.inl ⟨by rfl, ?_⟩) (by assumption) ?_
  rotate_left
  · (intro w hSw; (try dsimp only at hSw); go_simp; try with_reducible rfl)
  try simp only [Act.put, List.setIfInBounds_toArray, List.set_cons_zero, List.set_cons_succ]
  refine wpAnyH_takeD (i := 8) (some 43) (v := ?_) rfl rfl (by kernel_rfl) (by kernel_rfl) (by kernel_rfl) (fun _ _ _ h => h) (Or.inl ⟨by rfl, ?_⟩) (by assumption) ?_
  rotate_left
  · (intro w hSw; (try dsimp only at hSw); go_simp; try with_reducible rfl)
  try simp only [Act.put, List.setIfInBounds_toArray, List.set_cons_zero, List.set_cons_succ]
  refine wpAnyH_takeD (i := 10) (some 45) (v := ?_) rfl rfl (by kernel_rfl) (by kernel_rfl) (by kernel_rfl) (fun _ _ _ h => h) (Or.inl ⟨by rfl, ?_⟩) (by assumption) ?_
  rotate_left
  · (intro w hSw; (try dsimp only at hSw); go_simp; try with_reducible rfl)
  try simp only [Act.put, List.setIfInBounds_toArray, List.set_cons_zero, List.set_cons_succ]
  refine wpAnyH_takeD (i := 11) (some 46) (v := ?_) rfl rfl (by kernel_rfl) (by kernel_rfl) (by kernel_rfl) (fun _ _ _ h => h) (Or.inl ⟨by rfl, ?_⟩) (by assumption) ?_
  rotate_left
  · (intro w hSw; (try dsimp only at hSw); go_simp; try with_reducible rfl)
  try simp only [Act.put, List.setIfInBounds_toArray, List.set_cons_zero, List.set_cons_succ]
  refine wpAnyH_ready (rs := [9]) (by kernel_rfl) (by simp) ?_
  refine AllReadyH.cons (o := _) rfl (fun K hK => ?_) AllReadyH.nil
  go_simp
  refine (HS2.out _).mono ?_
  rintro e wx ⟨rfl, rfl⟩
  go_wp2_with fail
  refine hK.out _ _ (KD.out _ B0d B1d B4) (fun hHeld => ?_)
  clear hK K
  try simp only [Act.put, List.setIfInBounds_toArray, List.set_cons_zero, List.set_cons_succ]
  refine wpAnyH_takeD (i := 12) (some 47) (v := ?_) rfl rfl (by kernel_rfl) (by kernel_rfl) (by kernel_rfl) (fun _ _ _ h => h) (Or.inl ⟨by rfl, ?_⟩) (by assumption) ?_
  rotate_left
  · (intro w hSw; (try dsimp only at hSw); go_simp; try with_reducible rfl)
  try simp only [Act.put, List.setIfInBounds_toArray, List.set_cons_zero, List.set_cons_succ]
  refine wpAnyH_ready (rs := [13]) (by kernel_rfl) (by simp) ?_
  refine AllReadyH.cons (o := _) rfl (fun K hK => ?_) AllReadyH.nil
  rw [if_pos (by rfl)]
  refine wp_stB 31 _ _ rfl (by rfl) (by rfl) _ (by rfl) (show BlkV wc.drew _ _ _ from B2d) (by rfl) (shift_size (by rfl)) (by rfl) ?_
  intro wN BN hO
  have B0e := (show BlkV wc.drew _ _ _ from B0d).only hO (by omega)
  have B1e := (show BlkV wc.drew _ _ _ from B1d).only hO (by omega)
  have B3e := (show BlkV wc.drew _ _ _ from B3d).only hO (by omega)
  have B4e := (show BlkV wc.drew _ _ _ from B4).only hO hp0
  refine hK.out _ _ (KD.out _ B0e B1e B4e) (fun hHeld => ?_)
  clear hK K
  try simp only [Act.put, List.setIfInBounds_toArray, List.set_cons_zero, List.set_cons_succ]
  refine wpAnyH_ready (rs := [14]) (by kernel_rfl) (by simp) ?_
  refine AllReadyH.cons (o := _) rfl (fun K hK => ?_) AllReadyH.nil
  rw [if_pos (by rfl)]
  refine wp_stB 29 _ _ rfl (by rfl) (by rfl) _ (by rfl) B3e (by rfl) (tcp_size (by rfl)) (by rfl) ?_
  intro wM BM hM
  refine hK.out _ _ (KD.out _ (B0e.only hM (by omega)) (B1e.only hM (by omega)) (B4e.only hM hp1)) (fun hHeld => ?_)
  clear hK K
  try simp only [Act.put, List.setIfInBounds_toArray, List.set_cons_zero, List.set_cons_succ]
  refine wpAnyH_takeD (i := 15) (some 8) (v := ?_) rfl rfl (by kernel_rfl) (by kernel_rfl) (by kernel_rfl) (fun _ _ _ h => h) (Or.inl ⟨by rfl, ?_⟩) (by assumption) ?_
  rotate_left
  · (intro w hSw; (try dsimp only at hSw); go_simp; try with_reducible rfl)
  try simp only [Act.put, List.setIfInBounds_toArray, List.set_cons_zero, List.set_cons_succ]
  refine wpAnyH_done (by kernel_rfl) ?_ _
  have BN' := BN.only hM (by omega)
  have r0 := BN'.cell (i := 0) rfl
  have r1 := BN'.cell (i := 1) rfl
  obtain ⟨t0, t1, t2, t3, t4, t5, t6, t7, t8⟩ := cells9' BM
  clear BN BM BN' B0e B1e B3e B4e B0d B1d B2d B3d B4 hHeld KD
  go_wp2_with fail
  exact bodyPost_ret (v := .tuple #[.agg #[.int .u32 ((u.sq - Seq.step t.ak (-1)) % 4294967296), .int .u32 st], .agg #[.int .i64 u.dp, .int .i64 u.sp, .int .u32 u.ak, .int .u32 (Seq.step u.sq 1), .int .i64 16, .int .i64 t.wi, .int .i64 0, .slice none 0 0, .slice none 0 0], .int .i64 0]) (by simp [results, Tryd.results15, go_sem, r0, r1, t0, t1, t2, t3, t4, t5, t6, t7, t8]) rfl ⟨rfl, hM.bel (by omega) (hO.bel (by omega) (bel_d hbw3))⟩
end Go.Proofs.YtpidpbjbgjkaaaaDoor
