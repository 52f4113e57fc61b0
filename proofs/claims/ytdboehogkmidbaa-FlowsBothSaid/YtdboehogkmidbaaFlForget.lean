/- The walks of flows' forget, Drop. -/
import Derived.Test.YtdboehogkmidbaaFlAdd
namespace Go.Proofs.Ytdboehogkmidbaa
open Go.RowKit
set_option linter.unusedVariables false
set_option linter.unusedSimpArgs false
/-- the store while flows are being forgotten -/
def PM (w : World) (X : FLoc) (sl : Fl.Sl) (now : Int) (D : List Nat) : Prop :=
  ∃ At ct tb c es ck l, FMem w X sl At ct tb c es ck l now (Fl.count sl) ∧ Fl.Part sl tb l now D
section
variable {w w' : World} {X : FLoc} {sl : Fl.Sl} {At : Option Addr} {ct : Nat} {tb : List Idx.Cell} {c : Nat} {es : List Mi.E} {ck : Nat} {l : List Wh.Al} {now : Int} {many : Nat}
theorem PM.fm (h : PM w X sl now []) : FM w X sl now := by
  obtain ⟨At, ct, tb, c, es, ck, l, h1, h2⟩ := h
  exact ⟨At, ct, tb, c, es, ck, l, h1, h2.inv⟩
theorem PM.below {D : List Nat} (h : PM w X sl now D) (hb : Below w.heap.size w w') : PM w' X sl now D := by
  obtain ⟨At, ct, tb, c, es, ck, l, h1, h2⟩ := h
  exact ⟨At, ct, tb, c, es, ck, l, h1.below hb, h2⟩
set_option maxRecDepth 8000 in
set_option maxHeartbeats 16000000 in
theorem PM.forget {D : List Nat} {i : Nat} {f : Fl.F} (h : PM w X sl now (i :: D)) (hs : Fl.slot sl i = some f) :
    Calls Try.prog 23 #[.pointer (some ⟨X.gs, 0, none⟩), .int .i64 i] w fun e w' => e = .returned (.agg #[.int .i64 f.th.pr, .int .u32 f.th.sr, .int .i64 f.th.sp, .int .u32 f.th.ds, .int .i64 f.th.dp, .int .i64 f.bk.pr, .int .u32 f.bk.sr, .int .i64 f.bk.sp, .int .u32 f.bk.ds, .int .i64 f.bk.dp, .int .i64 f.un, .int .i64 f.no]) ∧ PM w' X (sl.set i none) now D ∧ FStep w w' X X := by
  obtain ⟨At, ct, tb, c, es, ck, l, h1, h2⟩ := h
  obtain ⟨R1, R2, e1, e2, l1, l2, hP⟩ := h2.forget hs
  have hil := Fl.slot_lt hs
  have hsm := h1.sm
  have hcn : Fl.count (sl.set i none) + 1 = Fl.count sl := by
    have h3 := Fl.count_set hil none
    rw [hs] at h3
    simpa using h3
  obtain ⟨V, hV⟩ : ∃ V, V = w.alloc (.cells #[.int .i64 0, .int .u32 0, .int .i64 0, .int .u32 0, .int .i64 0, .int .i64 0, .int .u32 0, .int .i64 0, .int .u32 0, .int .i64 0, .int .i64 0, .int .i64 0] 31) := ⟨_, rfl⟩
  have hbV : Below w.heap.size w V := by rw [hV]; exact bel_a (Below.refl _ _) _
  obtain ⟨W0, hW0⟩ : ∃ W0, W0 = V.heap.size := ⟨_, rfl⟩
  have hz : V.heap.size = w.heap.size + 1 := by rw [hV]; simp
  have hNR : BlkV V w.heap.size 31 [.int .i64 0, .int .u32 0, .int .i64 0, .int .u32 0, .int .i64 0, .int .i64 0, .int .u32 0, .int .i64 0, .int .u32 0, .int .i64 0, .int .i64 0, .int .i64 0] := by rw [hV]; exact BlkV.new _ _ _
  have hM := h1.below hbV
  have HR := Lib.hid (hM.flow_at hs)
  have HM := Lib.hid hM
  have HNR := Lib.hid hNR
  have HK := Lib.hid (h1.kwf i f hs)
  have HS0 := Lib.hid (FStep.of_below X hbV)
  have HE1 := Lib.hid e1
  have HE2 := Lib.hid e2
  have HP := Lib.hid hP
  have HCn := Lib.hid hcn
  have HZ := Lib.hid hz
  obtain ⟨c0, c1, c2, c3⟩ := hM.cells
  obtain ⟨cnt, hcnt⟩ : ∃ cnt, cnt = Fl.count (sl.set i none) := ⟨_, rfl⟩
  rw [← hcn, ← hcnt] at HM
  rw [← hcn, ← hcnt] at c3
  have HCt := Lib.hid hcnt
  have hiz : (i : Int) < (sl.length : Int) := by omega
  have hcl : cnt ≤ 256 := by rw [hcnt]; exact Nat.le_trans (Fl.count_le _) (by simpa using hsm)
  clear h1 h2 e1 e2 l1 l2 hP hs hcn hbV hz hNR hM hcnt c1 c2 c3
  go_enter Try.func23, Try.ntmps23
  go_upto_region 1 with (fail)
  rw [← hV]
  have HW0 := Lib.hid hW0
  clear hV hW0
  go_upto_region 2 with (first | (refine wpList_load_mid rfl 31 _ (by with_reducible rfl) X.gl (i * 13 + 1) (by rfl) [.int .i64 f.th.pr, .int .u32 f.th.sr, .int .i64 f.th.sp, .int .u32 f.th.ds, .int .i64 f.th.dp, .int .i64 f.bk.pr, .int .u32 f.bk.sr, .int .i64 f.bk.sp, .int .u32 f.bk.ds, .int .i64 f.bk.dp, .int .i64 f.un, .int .i64 f.no] _ HR.out Try.underlying31 rfl (flow_size rfl) ?_) | (refine wpList_stB 31 _ _ (by with_reducible rfl) rfl (by rfl) [.int .i64 f.th.pr, .int .u32 f.th.sr, .int .i64 f.th.sp, .int .u32 f.th.ds, .int .i64 f.th.dp, .int .i64 f.bk.pr, .int .u32 f.bk.sr, .int .i64 f.bk.sp, .int .u32 f.bk.ds, .int .i64 f.bk.dp, .int .i64 f.un, .int .i64 f.no] (by rfl) (by exact BlkV.new _ _ _) (by rfl) (flow_size (by rfl)) (by rfl) ?_; intro w1 N1 O1) | fail)
  rw [← HW0.out] at N1 O1 ⊢
  have hb1 : Below V.heap.size V w1 := O1.bel (by rw [HW0.out]; exact Nat.le_refl _) (bel_a (Below.refl _ _) _)
  have HM1 := Lib.hid (HM.out.below hb1)
  have HN1 := Lib.hid N1
  have HNR1 := Lib.hid (HNR.out.below hb1)
  have HS1 := Lib.hid (HS0.out.trans (FStep.of_below X hb1))
  obtain ⟨c0, c1, c2, c3⟩ := HM1.out.cells
  have M1 := HM1.out
  clear N1 O1 hb1 HM HNR HS0 HR
  go_upto_region 3 with (first | (refine M1.wpList_put (p := i) (by omega) none (fun g hg => by cases hg) 62 _ _ rfl rfl (by with_reducible rfl) (by rfl) (by rfl) (by kernel_rfl) ?_; intro w2 hM2 hO2) | fail)
  obtain ⟨n1, n2, n3⟩ := HM1.out.at_lt HN1.out (by decide) (by decide) (by decide) (by decide)
  obtain ⟨m1, m2, m3⟩ := HM1.out.at_lt HNR1.out (by decide) (by decide) (by decide) (by decide)
  have HM2 := Lib.hid hM2
  have HN2 : Hid (BlkV w2 W0 31 [.int .i64 f.th.pr, .int .u32 f.th.sr, .int .i64 f.th.sp, .int .u32 f.th.ds, .int .i64 f.th.dp, .int .i64 f.bk.pr, .int .u32 f.bk.sr, .int .i64 f.bk.sp, .int .u32 f.bk.ds, .int .i64 f.bk.dp, .int .i64 f.un, .int .i64 f.no]) := Lib.hid (BlkV.only HN1.out hO2 n2)
  have HNR2 : Hid (BlkV w2 w.heap.size 31 [.int .i64 0, .int .u32 0, .int .i64 0, .int .u32 0, .int .i64 0, .int .i64 0, .int .u32 0, .int .i64 0, .int .u32 0, .int .i64 0, .int .i64 0, .int .i64 0]) := Lib.hid (BlkV.only HNR1.out hO2 m2)
  have HNE := Lib.hid (And.intro n1 m1)
  have HS2 := Lib.hid (HS1.out.trans (FStep.of_only X hO2 (Or.inr (Or.inl rfl))))
  clear hM2 hO2 n1 n2 n3 m1 m2 m3 HM1 HN1 HNR1 HS1 M1 c0 c1 c2 c3
  -- There is taken out
  have KS : Hid (∀ w' : World, Below w2.heap.size w2 w' → w'.cell? ⟨X.gs, 1, none⟩ = some (.slice At 1024 ct) ∧ w'.cell? ⟨W0, 0, none⟩ = some (.int .i64 f.th.pr) ∧ w'.cell? ⟨W0, 1, none⟩ = some (.int .u32 f.th.sr) ∧ w'.cell? ⟨W0, 2, none⟩ = some (.int .i64 f.th.sp) ∧ w'.cell? ⟨W0, 3, none⟩ = some (.int .u32 f.th.ds) ∧ w'.cell? ⟨W0, 4, none⟩ = some (.int .i64 f.th.dp) ∧ w'.cell? ⟨W0, 5, none⟩ = some (.int .i64 f.bk.pr) ∧ w'.cell? ⟨W0, 6, none⟩ = some (.int .u32 f.bk.sr) ∧ w'.cell? ⟨W0, 7, none⟩ = some (.int .i64 f.bk.sp) ∧ w'.cell? ⟨W0, 8, none⟩ = some (.int .u32 f.bk.ds) ∧ w'.cell? ⟨W0, 9, none⟩ = some (.int .i64 f.bk.dp) ∧ w'.cell? ⟨W0, 10, none⟩ = some (.int .i64 f.un) ∧ w'.cell? ⟨W0, 11, none⟩ = some (.int .i64 f.no)) := Lib.hid fun w' hb => ⟨(HM2.out.below hb).cells.2.1, (HN2.out.below hb).flow⟩
  have hD := del_spec2 At 1024 ct tb f.th w2.drew ((HM2.out.below (bel_d (Below.refl _ w2))).tab) HK.out.1 (by omega)
  rw [HE1.out] at hD
  have HD := Lib.hid hD
  clear hD
  refine wp_region_X (S := fun w' => w'.cell? ⟨X.gs, 1, none⟩ = some (.slice At 1024 ct) ∧ w'.cell? ⟨W0, 0, none⟩ = some (.int .i64 f.th.pr) ∧ w'.cell? ⟨W0, 1, none⟩ = some (.int .u32 f.th.sr) ∧ w'.cell? ⟨W0, 2, none⟩ = some (.int .i64 f.th.sp) ∧ w'.cell? ⟨W0, 3, none⟩ = some (.int .u32 f.th.ds) ∧ w'.cell? ⟨W0, 4, none⟩ = some (.int .i64 f.th.dp) ∧ w'.cell? ⟨W0, 5, none⟩ = some (.int .i64 f.bk.pr) ∧ w'.cell? ⟨W0, 6, none⟩ = some (.int .u32 f.bk.sr) ∧ w'.cell? ⟨W0, 7, none⟩ = some (.int .i64 f.bk.sp) ∧ w'.cell? ⟨W0, 8, none⟩ = some (.int .u32 f.bk.ds) ∧ w'.cell? ⟨W0, 9, none⟩ = some (.int .i64 f.bk.dp) ∧ w'.cell? ⟨W0, 10, none⟩ = some (.int .i64 f.un) ∧ w'.cell? ⟨W0, 11, none⟩ = some (.int .i64 f.no)) 13 (by kernel_rfl) (KS.out _ (bel_d (Below.refl _ w2))) (fun hHeld => ?_)
  refine wpAnyX_takeD (i := 0) (some 22) (v := ?_) rfl rfl (by kernel_rfl) (by kernel_rfl) (by kernel_rfl) (by kernel_rfl) (fun _ _ _ h => h) (Or.inl ⟨by rfl, ?_⟩) (by assumption) ?_
  rotate_left
  · (intro w hSw; (try dsimp only at hSw); go_simp; try with_reducible rfl)
  try simp only [Act.put, List.setIfInBounds_toArray, List.set_cons_zero, List.set_cons_succ]
  refine wpAnyX_takeD (i := 1) (some 23) (v := ?_) rfl rfl (by kernel_rfl) (by kernel_rfl) (by kernel_rfl) (by kernel_rfl) (fun _ _ _ h => h) (Or.inl ⟨by rfl, ?_⟩) (by assumption) ?_
  rotate_left
  · (intro w hSw; (try dsimp only at hSw); go_simp; try with_reducible rfl)
  try simp only [Act.put, List.setIfInBounds_toArray, List.set_cons_zero, List.set_cons_succ]
  refine wpAnyX_takeD (i := 2) (some 24) (v := ?_) rfl rfl (by kernel_rfl) (by kernel_rfl) (by kernel_rfl) (by kernel_rfl) (fun _ _ _ h => h) (Or.inl ⟨by rfl, ?_⟩) (by assumption) ?_
  rotate_left
  · (intro w hSw; (try dsimp only at hSw); go_simp; try with_reducible rfl)
  try simp only [Act.put, List.setIfInBounds_toArray, List.set_cons_zero, List.set_cons_succ]
  refine wpAnyX_takeD (i := 3) (some 25) (v := ?_) rfl rfl (by kernel_rfl) (by kernel_rfl) (by kernel_rfl) (by kernel_rfl) (fun _ _ _ h => h) (Or.inl ⟨by rfl, ?_⟩) (by assumption) ?_
  rotate_left
  · (intro w hSw; (try dsimp only at hSw); go_simp; try with_reducible rfl)
  try simp only [Act.put, List.setIfInBounds_toArray, List.set_cons_zero, List.set_cons_succ]
  refine wpAnyX_takeD (i := 4) (some 26) (v := ?_) rfl rfl (by kernel_rfl) (by kernel_rfl) (by kernel_rfl) (by kernel_rfl) (fun _ _ _ h => h) (Or.inl ⟨by rfl, ?_⟩) (by assumption) ?_
  rotate_left
  · (intro w hSw; (try dsimp only at hSw); go_simp; try with_reducible rfl)
  try simp only [Act.put, List.setIfInBounds_toArray, List.set_cons_zero, List.set_cons_succ]
  refine wpAnyX_takeD (i := 5) (some 27) (v := ?_) rfl rfl (by kernel_rfl) (by kernel_rfl) (by kernel_rfl) (by kernel_rfl) (fun _ _ _ h => h) (Or.inl ⟨by rfl, ?_⟩) (by assumption) ?_
  rotate_left
  · (intro w hSw; (try dsimp only at hSw); go_simp; try with_reducible rfl)
  try simp only [Act.put, List.setIfInBounds_toArray, List.set_cons_zero, List.set_cons_succ]
  refine wpAnyX_takeD (i := 6) (some 28) (v := ?_) rfl rfl (by kernel_rfl) (by kernel_rfl) (by kernel_rfl) (by kernel_rfl) (fun _ _ _ h => h) (Or.inl ⟨by rfl, ?_⟩) (by assumption) ?_
  rotate_left
  · (intro w hSw; (try dsimp only at hSw); go_simp; try with_reducible rfl)
  try simp only [Act.put, List.setIfInBounds_toArray, List.set_cons_zero, List.set_cons_succ]
  refine wpAnyX_ready (rs := [7]) (by kernel_rfl) (by simp) ?_
  refine AllReadyX.cons (o := _) rfl (fun K hK => ?_) AllReadyX.nil
  go_simp
  refine HD.out.mono ?_
  rintro e w3 ⟨A3, c3, rfl, hT3, hb3, hfar3⟩
  have hb3' := bel_then (bel_d (Below.refl _ w2)) hb3
  go_simp
  refine hK.out _ _ (KS.out _ hb3') (fun hHeld => ?_)
  clear hK K
  try simp only [Act.put, List.setIfInBounds_toArray, List.set_cons_zero, List.set_cons_succ]
  refine wpAnyX_takeD (i := 8) (some 21) (v := ?_) rfl rfl (by kernel_rfl) (by kernel_rfl) (by kernel_rfl) (by kernel_rfl) (fun _ _ _ h => h) (Or.inl ⟨by rfl, ?_⟩) (by assumption) ?_
  rotate_left
  · (intro w hSw; (try dsimp only at hSw); go_simp; try with_reducible rfl)
  try simp only [Act.put, List.setIfInBounds_toArray, List.set_cons_zero, List.set_cons_succ]
  refine wpAnyX_takeD (i := 9) (some 30) (v := ?_) rfl rfl (by kernel_rfl) (by kernel_rfl) (by kernel_rfl) (by kernel_rfl) (fun _ _ _ h => h) (Or.inl ⟨by rfl, ?_⟩) (by assumption) ?_
  rotate_left
  · (intro w hSw; (try dsimp only at hSw); go_simp; try with_reducible rfl)
  try simp only [Act.put, List.setIfInBounds_toArray, List.set_cons_zero, List.set_cons_succ]
  refine wpAnyX_takeP (i := 10) (some 31) (v := ?_) rfl rfl (by kernel_rfl) (by kernel_rfl) (by kernel_rfl) (by kernel_rfl) (fun _ _ _ h => h) (Or.inl ⟨by rfl, ?_⟩) (fun _ => by assumption) ?_
  rotate_left
  · (intro w hSw; (try dsimp only at hSw); go_simp; try with_reducible rfl)
  try simp only [Act.put, List.setIfInBounds_toArray, List.set_cons_zero, List.set_cons_succ]
  refine wpAnyX_takeD (i := 11) (some 32) (v := ?_) rfl rfl (by kernel_rfl) (by kernel_rfl) (by kernel_rfl) (by kernel_rfl) (fun _ _ _ h => h) (Or.inl ⟨by rfl, ?_⟩) (by assumption) ?_
  rotate_left
  · (intro w hSw; (try dsimp only at hSw); go_simp; try with_reducible rfl)
  try simp only [Act.put, List.setIfInBounds_toArray, List.set_cons_zero, List.set_cons_succ]
  refine wpAnyX_takeD (i := 12) (some 33) (v := ?_) rfl rfl (by kernel_rfl) (by kernel_rfl) (by kernel_rfl) (by kernel_rfl) (fun _ _ _ h => h) (Or.inl ⟨by rfl, ?_⟩) (by assumption) ?_
  rotate_left
  · (intro w hSw; (try dsimp only at hSw); go_simp; try with_reducible rfl)
  try simp only [Act.put, List.setIfInBounds_toArray, List.set_cons_zero, List.set_cons_succ]
  have M3 := HM2.out.below hb3'
  have N3 := HN2.out.below hb3'
  have NR3 := HNR2.out.below hb3'
  have B3 := M3.box
  refine wpAnyX_ready (rs := [13]) (by kernel_rfl) (by simp) ?_
  refine AllReadyX.last (o := _) rfl (by kernel_rfl) (fun K hK => ?_)
  rw [if_pos (by rfl)]
  refine wp_stF 52 _ _ 1 (.slice A3 1024 c3) rfl (by rfl) (by rfl) (by rfl) B3 (by simp) (by kernel_rfl) rfl ?_
  intro w4 B4 O4
  have HM4 := Lib.hid (M3.setbox (At' := A3) (ct' := c3) (tb' := R1) (many' := cnt + 1) O4 B4 hT3 (fun a ha => (hfar3 a ha).2))
  have HN4 := Lib.hid (N3.only O4 HNE.out.1)
  have HNR4 := Lib.hid (NR3.only O4 HNE.out.2)
  have HS4 := Lib.hid ((HS2.out.trans (FStep.of_below X hb3')).trans (FStep.of_only X O4 (Or.inl rfl)))
  refine hK.out _ _ ?_
  clear hK K
  try simp only [Act.put, List.setIfInBounds_toArray, List.set_cons_zero, List.set_cons_succ]
  refine wpAnyX_done (by kernel_rfl) ?_ _
  clear hHeld KS HM2 HN2 HNR2 HS2 HD hT3 hb3 hb3' hfar3 M3 N3 NR3 B3 B4 O4 HE1
  go_wp2_with fail
  -- Back is taken out
  have KS : Hid (∀ w' : World, Below w4.heap.size w4 w' → w'.cell? ⟨X.gs, 1, none⟩ = some (.slice A3 1024 c3) ∧ w'.cell? ⟨W0, 0, none⟩ = some (.int .i64 f.th.pr) ∧ w'.cell? ⟨W0, 1, none⟩ = some (.int .u32 f.th.sr) ∧ w'.cell? ⟨W0, 2, none⟩ = some (.int .i64 f.th.sp) ∧ w'.cell? ⟨W0, 3, none⟩ = some (.int .u32 f.th.ds) ∧ w'.cell? ⟨W0, 4, none⟩ = some (.int .i64 f.th.dp) ∧ w'.cell? ⟨W0, 5, none⟩ = some (.int .i64 f.bk.pr) ∧ w'.cell? ⟨W0, 6, none⟩ = some (.int .u32 f.bk.sr) ∧ w'.cell? ⟨W0, 7, none⟩ = some (.int .i64 f.bk.sp) ∧ w'.cell? ⟨W0, 8, none⟩ = some (.int .u32 f.bk.ds) ∧ w'.cell? ⟨W0, 9, none⟩ = some (.int .i64 f.bk.dp) ∧ w'.cell? ⟨W0, 10, none⟩ = some (.int .i64 f.un) ∧ w'.cell? ⟨W0, 11, none⟩ = some (.int .i64 f.no)) := Lib.hid fun w' hb => ⟨(HM4.out.below hb).cells.2.1, (HN4.out.below hb).flow⟩
  have hD := del_spec2 A3 1024 c3 R1 f.bk w4.drew ((HM4.out.below (bel_d (Below.refl _ w4))).tab) HK.out.2 (by omega)
  rw [HE2.out] at hD
  have HD := Lib.hid hD
  clear hD
  refine wp_region_X (S := fun w' => w'.cell? ⟨X.gs, 1, none⟩ = some (.slice A3 1024 c3) ∧ w'.cell? ⟨W0, 0, none⟩ = some (.int .i64 f.th.pr) ∧ w'.cell? ⟨W0, 1, none⟩ = some (.int .u32 f.th.sr) ∧ w'.cell? ⟨W0, 2, none⟩ = some (.int .i64 f.th.sp) ∧ w'.cell? ⟨W0, 3, none⟩ = some (.int .u32 f.th.ds) ∧ w'.cell? ⟨W0, 4, none⟩ = some (.int .i64 f.th.dp) ∧ w'.cell? ⟨W0, 5, none⟩ = some (.int .i64 f.bk.pr) ∧ w'.cell? ⟨W0, 6, none⟩ = some (.int .u32 f.bk.sr) ∧ w'.cell? ⟨W0, 7, none⟩ = some (.int .i64 f.bk.sp) ∧ w'.cell? ⟨W0, 8, none⟩ = some (.int .u32 f.bk.ds) ∧ w'.cell? ⟨W0, 9, none⟩ = some (.int .i64 f.bk.dp) ∧ w'.cell? ⟨W0, 10, none⟩ = some (.int .i64 f.un) ∧ w'.cell? ⟨W0, 11, none⟩ = some (.int .i64 f.no)) 13 (by kernel_rfl) (KS.out _ (bel_d (Below.refl _ w4))) (fun hHeld => ?_)
  refine wpAnyX_takeD (i := 0) (some 35) (v := ?_) rfl rfl (by kernel_rfl) (by kernel_rfl) (by kernel_rfl) (by kernel_rfl) (fun _ _ _ h => h) (Or.inl ⟨by rfl, ?_⟩) (by assumption) ?_
  rotate_left
  · (intro w hSw; (try dsimp only at hSw); go_simp; try with_reducible rfl)
  try simp only [Act.put, List.setIfInBounds_toArray, List.set_cons_zero, List.set_cons_succ]
  refine wpAnyX_takeD (i := 1) (some 36) (v := ?_) rfl rfl (by kernel_rfl) (by kernel_rfl) (by kernel_rfl) (by kernel_rfl) (fun _ _ _ h => h) (Or.inl ⟨by rfl, ?_⟩) (by assumption) ?_
  rotate_left
  · (intro w hSw; (try dsimp only at hSw); go_simp; try with_reducible rfl)
  try simp only [Act.put, List.setIfInBounds_toArray, List.set_cons_zero, List.set_cons_succ]
  refine wpAnyX_takeD (i := 2) (some 37) (v := ?_) rfl rfl (by kernel_rfl) (by kernel_rfl) (by kernel_rfl) (by kernel_rfl) (fun _ _ _ h => h) (Or.inl ⟨by rfl, ?_⟩) (by assumption) ?_
  rotate_left
  · (intro w hSw; (try dsimp only at hSw); go_simp; try with_reducible rfl)
  try simp only [Act.put, List.setIfInBounds_toArray, List.set_cons_zero, List.set_cons_succ]
  refine wpAnyX_takeD (i := 3) (some 38) (v := ?_) rfl rfl (by kernel_rfl) (by kernel_rfl) (by kernel_rfl) (by kernel_rfl) (fun _ _ _ h => h) (Or.inl ⟨by rfl, ?_⟩) (by assumption) ?_
  rotate_left
  · (intro w hSw; (try dsimp only at hSw); go_simp; try with_reducible rfl)
  try simp only [Act.put, List.setIfInBounds_toArray, List.set_cons_zero, List.set_cons_succ]
  refine wpAnyX_takeD (i := 4) (some 39) (v := ?_) rfl rfl (by kernel_rfl) (by kernel_rfl) (by kernel_rfl) (by kernel_rfl) (fun _ _ _ h => h) (Or.inl ⟨by rfl, ?_⟩) (by assumption) ?_
  rotate_left
  · (intro w hSw; (try dsimp only at hSw); go_simp; try with_reducible rfl)
  try simp only [Act.put, List.setIfInBounds_toArray, List.set_cons_zero, List.set_cons_succ]
  refine wpAnyX_takeD (i := 5) (some 40) (v := ?_) rfl rfl (by kernel_rfl) (by kernel_rfl) (by kernel_rfl) (by kernel_rfl) (fun _ _ _ h => h) (Or.inl ⟨by rfl, ?_⟩) (by assumption) ?_
  rotate_left
  · (intro w hSw; (try dsimp only at hSw); go_simp; try with_reducible rfl)
  try simp only [Act.put, List.setIfInBounds_toArray, List.set_cons_zero, List.set_cons_succ]
  refine wpAnyX_takeD (i := 6) (some 41) (v := ?_) rfl rfl (by kernel_rfl) (by kernel_rfl) (by kernel_rfl) (by kernel_rfl) (fun _ _ _ h => h) (Or.inl ⟨by rfl, ?_⟩) (by assumption) ?_
  rotate_left
  · (intro w hSw; (try dsimp only at hSw); go_simp; try with_reducible rfl)
  try simp only [Act.put, List.setIfInBounds_toArray, List.set_cons_zero, List.set_cons_succ]
  refine wpAnyX_ready (rs := [7]) (by kernel_rfl) (by simp) ?_
  refine AllReadyX.cons (o := _) rfl (fun K hK => ?_) AllReadyX.nil
  go_simp
  refine HD.out.mono ?_
  rintro e w5 ⟨A5, c5, rfl, hT5, hb5, hfar5⟩
  have hb5' := bel_then (bel_d (Below.refl _ w4)) hb5
  go_simp
  refine hK.out _ _ (KS.out _ hb5') (fun hHeld => ?_)
  clear hK K
  try simp only [Act.put, List.setIfInBounds_toArray, List.set_cons_zero, List.set_cons_succ]
  refine wpAnyX_takeD (i := 8) (some 34) (v := ?_) rfl rfl (by kernel_rfl) (by kernel_rfl) (by kernel_rfl) (by kernel_rfl) (fun _ _ _ h => h) (Or.inl ⟨by rfl, ?_⟩) (by assumption) ?_
  rotate_left
  · (intro w hSw; (try dsimp only at hSw); go_simp; try with_reducible rfl)
  try simp only [Act.put, List.setIfInBounds_toArray, List.set_cons_zero, List.set_cons_succ]
  refine wpAnyX_takeD (i := 9) (some 43) (v := ?_) rfl rfl (by kernel_rfl) (by kernel_rfl) (by kernel_rfl) (by kernel_rfl) (fun _ _ _ h => h) (Or.inl ⟨by rfl, ?_⟩) (by assumption) ?_
  rotate_left
  · (intro w hSw; (try dsimp only at hSw); go_simp; try with_reducible rfl)
  try simp only [Act.put, List.setIfInBounds_toArray, List.set_cons_zero, List.set_cons_succ]
  refine wpAnyX_takeP (i := 10) (some 44) (v := ?_) rfl rfl (by kernel_rfl) (by kernel_rfl) (by kernel_rfl) (by kernel_rfl) (fun _ _ _ h => h) (Or.inl ⟨by rfl, ?_⟩) (fun _ => by assumption) ?_
  rotate_left
  · (intro w hSw; (try dsimp only at hSw); go_simp; try with_reducible rfl)
  try simp only [Act.put, List.setIfInBounds_toArray, List.set_cons_zero, List.set_cons_succ]
  refine wpAnyX_takeD (i := 11) (some 45) (v := ?_) rfl rfl (by kernel_rfl) (by kernel_rfl) (by kernel_rfl) (by kernel_rfl) (fun _ _ _ h => h) (Or.inl ⟨by rfl, ?_⟩) (by assumption) ?_
  rotate_left
  · (intro w hSw; (try dsimp only at hSw); go_simp; try with_reducible rfl)
  try simp only [Act.put, List.setIfInBounds_toArray, List.set_cons_zero, List.set_cons_succ]
  refine wpAnyX_takeD (i := 12) (some 46) (v := ?_) rfl rfl (by kernel_rfl) (by kernel_rfl) (by kernel_rfl) (by kernel_rfl) (fun _ _ _ h => h) (Or.inl ⟨by rfl, ?_⟩) (by assumption) ?_
  rotate_left
  · (intro w hSw; (try dsimp only at hSw); go_simp; try with_reducible rfl)
  try simp only [Act.put, List.setIfInBounds_toArray, List.set_cons_zero, List.set_cons_succ]
  have M5 := HM4.out.below hb5'
  have N5 := HN4.out.below hb5'
  have NR5 := HNR4.out.below hb5'
  have B5 := M5.box
  refine wpAnyX_ready (rs := [13]) (by kernel_rfl) (by simp) ?_
  refine AllReadyX.last (o := _) rfl (by kernel_rfl) (fun K hK => ?_)
  rw [if_pos (by rfl)]
  refine wp_stF 52 _ _ 1 (.slice A5 1024 c5) rfl (by rfl) (by rfl) (by rfl) B5 (by simp) (by kernel_rfl) rfl ?_
  intro w6 B6 O6
  have HM6 := Lib.hid (M5.setbox (At' := A5) (ct' := c5) (tb' := R2) (many' := cnt + 1) O6 B6 hT5 (fun a ha => (hfar5 a ha).2))
  have HN6 := Lib.hid (N5.only O6 HNE.out.1)
  have HNR6 := Lib.hid (NR5.only O6 HNE.out.2)
  have HS6 := Lib.hid ((HS4.out.trans (FStep.of_below X hb5')).trans (FStep.of_only X O6 (Or.inl rfl)))
  refine hK.out _ _ ?_
  clear hK K
  try simp only [Act.put, List.setIfInBounds_toArray, List.set_cons_zero, List.set_cons_succ]
  refine wpAnyX_done (by kernel_rfl) ?_ _
  clear hHeld KS HM4 HN4 HNR4 HS4 HD hT5 hb5 hb5' hfar5 M5 N5 NR5 B5 B6 O6 HE2
  obtain ⟨c0, c1, c2, c3⟩ := HM6.out.cells
  have B7 := HM6.out.box
  go_upto_region 6 with (first | (refine wpList_stF 3 _ _ 3 (.int .i64 cnt) rfl (by with_reducible rfl) rfl (by rfl) (by rfl) B7 (by simp) (by kernel_rfl) rfl ?_; intro w8 B8 O8) | fail)
  have HM8 := Lib.hid (HM6.out.setbox (many' := cnt) O8 B8 HM6.out.tab HM6.out.tty)
  have HS8 := Lib.hid (HS6.out.trans (FStep.of_only X O8 (Or.inl rfl)))
  have N8 := HN6.out.only O8 HNE.out.1
  have NR8 := HNR6.out.only O8 HNE.out.2
  clear B7 B8 O8 c0 c1 c2 c3 HM6 HS6 HN6 HNR6
  go_wp2_with (first | (refine wpList_ldB 31 _ _ (by with_reducible rfl) rfl (by rfl) N8 Try.underlying31 rfl (flow_size (by rfl)) ?_) | (refine wpList_stB 31 _ _ (by with_reducible rfl) rfl (by rfl) [.int .i64 f.th.pr, .int .u32 f.th.sr, .int .i64 f.th.sp, .int .u32 f.th.ds, .int .i64 f.th.dp, .int .i64 f.bk.pr, .int .u32 f.bk.sr, .int .i64 f.bk.sp, .int .u32 f.bk.ds, .int .i64 f.bk.dp, .int .i64 f.un, .int .i64 f.no] (by rfl) (by exact NR8) (by rfl) (flow_size (by rfl)) (by rfl) ?_; intro w9 N9 O9) | fail)
  have r0 := N9.cell (i := 0) rfl
  have r1 := N9.cell (i := 1) rfl
  have r2 := N9.cell (i := 2) rfl
  have r3 := N9.cell (i := 3) rfl
  have r4 := N9.cell (i := 4) rfl
  have r5 := N9.cell (i := 5) rfl
  have r6 := N9.cell (i := 6) rfl
  have r7 := N9.cell (i := 7) rfl
  have r8 := N9.cell (i := 8) rfl
  have r9 := N9.cell (i := 9) rfl
  have r10 := N9.cell (i := 10) rfl
  have r11 := N9.cell (i := 11) rfl
  obtain ⟨m1, m2, m3⟩ := HM8.out.at_lt NR8 (by decide) (by decide) (by decide) (by decide)
  have hM9 : FMem w9 X (sl.set i none) A5 c5 R2 c es ck l now cnt := HM8.out.keep (fun k hk hx => O9.block k (fun e => by
    subst e
    rcases hx with hx | ⟨a, ha, hx⟩
    · exact HM8.out.not_own NR8 (by decide) (by decide) (by decide) (by decide) hx
    · obtain ⟨vs, hv⟩ := HM8.out.tty a ha
      rw [hx] at hv
      have hw := NR8
      unfold BlkV at hv hw
      rw [hw] at hv
      injection hv with hv
      injection hv with _ hv
      exact absurd hv (by decide))) (by rw [O9.size]; exact Nat.le_refl _)
  have hS9 : FStep w w9 X X := ⟨rfl, rfl, rfl, rfl, fun g hg => Or.inl hg, HS8.out.keeps.trans (Keeps.of_only O9 (fun k => k = w.heap.size) rfl) (fun k hk => Or.inr (by rw [hk]; exact Nat.le_refl _))⟩
  exact bodyPost_ret (v := .agg #[.int .i64 f.th.pr, .int .u32 f.th.sr, .int .i64 f.th.sp, .int .u32 f.th.ds, .int .i64 f.th.dp, .int .i64 f.bk.pr, .int .u32 f.bk.sr, .int .i64 f.bk.sp, .int .u32 f.bk.ds, .int .i64 f.bk.dp, .int .i64 f.un, .int .i64 f.no]) (by simp [results, Try.results23, go_sem, r0, r1, r2, r3, r4, r5, r6, r7, r8, r9, r10, r11]) rfl ⟨rfl, ⟨_, _, _, _, _, _, _, by rw [← HCt.out]; exact hM9, HP.out⟩, hS9⟩
end
end Go.Proofs.Ytdboehogkmidbaa
