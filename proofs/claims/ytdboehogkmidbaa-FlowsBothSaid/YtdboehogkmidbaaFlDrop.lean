/- The walks of flows.Drop, flows.Set. -/
import Derived.Test.YtdboehogkmidbaaFlForget
namespace Go.Proofs.Ytdboehogkmidbaa
open Go.RowKit
set_option linter.unusedVariables false
set_option linter.unusedSimpArgs false
section
variable {w w' : World} {X : FLoc} {sl : Fl.Sl} {At : Option Addr} {ct : Nat} {tb : List Idx.Cell} {c : Nat} {es : List Mi.E} {ck : Nat} {l : List Wh.Al} {now : Int} {many : Nat}
/-- a block of another type is stored into -/
theorem FMem.other {g : Nat} {T : TypeId} {vs : List Value} (h : FMem w X sl At ct tb c es ck l now many) (hN : BlkV w g T vs) (h1 : T ≠ 59) (h2 : T ≠ 62) (h3 : T ≠ 79) (h4 : T ≠ 86) (h5 : T ≠ 82) (ho : OnlyB g w w') : FMem w' X sl At ct tb c es ck l now many :=
  h.keep (fun k hk hx => ho.block k (fun e => by
    subst e
    rcases hx with hx | ⟨a, ha, hx⟩
    · exact h.not_own hN h1 h2 h3 h4 hx
    · obtain ⟨us, hv⟩ := h.tty a ha
      rw [hx] at hv
      unfold BlkV at hv hN
      rw [hN] at hv
      injection hv with hv
      injection hv with _ hv
      exact h5 hv)) (by rw [ho.size]; exact Nat.le_refl _)
theorem FStep.newer {X' : FLoc} {wx : World} {g : Nat} (h : FStep w wx X X') (ho : OnlyB g wx w') (hg : w.heap.size ≤ g) : FStep w w' X X' :=
  ⟨h.gs, h.gl, h.gw, h.gm, h.gr, h.keeps.trans (Keeps.of_only ho (fun k => k = g) rfl) (fun k hk => Or.inr (by rw [hk]; exact hg))⟩
theorem BlkV.flow_res {w' : World} {g : Nat} {f : Fl.F} (h : BlkV w' g 31 [.int .i64 f.th.pr, .int .u32 f.th.sr, .int .i64 f.th.sp, .int .u32 f.th.ds, .int .i64 f.th.dp, .int .i64 f.bk.pr, .int .u32 f.bk.sr, .int .i64 f.bk.sp, .int .u32 f.bk.ds, .int .i64 f.bk.dp, .int .i64 f.un, .int .i64 f.no]) : ∀ j v, ([.int .i64 f.th.pr, .int .u32 f.th.sr, .int .i64 f.th.sp, .int .u32 f.th.ds, .int .i64 f.th.dp, .int .i64 f.bk.pr, .int .u32 f.bk.sr, .int .i64 f.bk.sp, .int .u32 f.bk.ds, .int .i64 f.bk.dp, .int .i64 f.un, .int .i64 f.no] : List Value)[j]? = some v → w'.cell? ⟨g, j, none⟩ = some v := fun j v hv => h.cell hv
set_option maxRecDepth 8000 in
set_option maxHeartbeats 8000000 in
theorem FM.drop {i : Nat} {f : Fl.F} (h : FM w X sl now) (hs : Fl.slot sl i = some f) :
    Calls Try.prog 8 #[.pointer (some ⟨X.gs, 0, none⟩), .int .i64 i] w fun e w' => e = .returned (.tuple #[.agg #[.int .i64 f.th.pr, .int .u32 f.th.sr, .int .i64 f.th.sp, .int .u32 f.th.ds, .int .i64 f.th.dp, .int .i64 f.bk.pr, .int .u32 f.bk.sr, .int .i64 f.bk.sp, .int .u32 f.bk.ds, .int .i64 f.bk.dp, .int .i64 f.un, .int .i64 f.no], .int .i64 0]) ∧ Fgo w X (sl.set i none) now w' := by
  obtain ⟨At, ct, tb, c, es, ck, l, h1, h2⟩ := h
  obtain ⟨V, hV⟩ : ∃ V, V = w.alloc (.cells #[.int .i64 0, .int .u32 0, .int .i64 0, .int .u32 0, .int .i64 0, .int .i64 0, .int .u32 0, .int .i64 0, .int .u32 0, .int .i64 0, .int .i64 0, .int .i64 0] 31) := ⟨_, rfl⟩
  have hbV : Below w.heap.size w V := by rw [hV]; exact bel_a (Below.refl _ _) _
  have hNR : BlkV V w.heap.size 31 [.int .i64 0, .int .u32 0, .int .i64 0, .int .u32 0, .int .i64 0, .int .i64 0, .int .u32 0, .int .i64 0, .int .u32 0, .int .i64 0, .int .i64 0, .int .i64 0] := by rw [hV]; exact BlkV.new _ _ _
  have hM := h1.below hbV
  have hT := hM.there i
  rw [Fl.thereB_nat, hs] at hT
  have HT : Hid (Calls Try.prog 21 #[.pointer (some ⟨X.gs, 0, none⟩), .int .i64 i] V fun e w' => e = .returned (.bool true) ∧ V = w') := Lib.hid hT
  obtain ⟨p, hp1, hp2⟩ := h2.place hs
  have hD := hM.wh.drop_some hp1
  have HD := Lib.hid hD
  have hpt := h2.dropped hs
  unfold Wh.dropAt at hpt
  rw [hp1] at hpt
  have HPt := Lib.hid hpt
  have HM := Lib.hid hM
  have HNR := Lib.hid hNR
  have HS0 := Lib.hid (FStep.of_below X hbV)
  have HSl := Lib.hid hs
  obtain ⟨c0, c1, c2, c3⟩ := hM.cells
  clear h1 h2 hbV hNR hM hT hD hpt hp1 hp2 hs c0 c1 c3
  go_enter Try.func8, Try.ntmps8
  go_upto_region 1 with (fail)
  rw [← hV]
  clear hV
  go_wp2_with fail
  refine HT.out.mono ?_
  rintro e w1 ⟨rfl, rfl⟩
  clear HT
  go_wp2_with fail
  refine HD.out.mono ?_
  rintro e w2 ⟨rfl, hG⟩
  obtain ⟨L', c', es', ck', hM2, hS2⟩ := HM.out.wheel hG
  have HS2 := Lib.hid (HS0.out.trans hS2)
  have HNR2 := Lib.hid ((hS2.fr HM.out).blk _ _ _ HNR.out (by decide) (by decide) (by decide) (by decide))
  have HM2 := Lib.hid hM2
  have hPM : PM w2 { X with L := L' } sl now [i] := ⟨_, _, _, _, _, _, _, hM2, HPt.out⟩
  have HF := Lib.hid (hPM.forget HSl.out)
  clear hG hM2 hS2 HD HM HNR HS0 c2 hPM
  go_wp2_with fail
  refine HF.out.mono ?_
  rintro e w3 ⟨rfl, hP3, hS3⟩
  obtain ⟨At3, ct3, tb3, c3, es3, ck3, l3, hM3, hI3⟩ := hP3
  have HM3 := Lib.hid hM3
  have HI3 := Lib.hid hI3
  have HS3 := Lib.hid (HS2.out.trans hS3)
  have NR3 := (hS3.fr HM2.out).blk _ _ _ HNR2.out (by decide) (by decide) (by decide) (by decide)
  clear hM3 hI3 hS3 HF HM2 HNR2 HS2
  go_wp2_with (first | (refine wpList_stB 31 _ _ (by with_reducible rfl) rfl (by rfl) [.int .i64 f.th.pr, .int .u32 f.th.sr, .int .i64 f.th.sp, .int .u32 f.th.ds, .int .i64 f.th.dp, .int .i64 f.bk.pr, .int .u32 f.bk.sr, .int .i64 f.bk.sp, .int .u32 f.bk.ds, .int .i64 f.bk.dp, .int .i64 f.un, .int .i64 f.no] (by rfl) (by exact NR3) (by rfl) (flow_size (by rfl)) (by rfl) ?_; intro w9 N9 O9) | fail)
  have r0 := N9.cell (i := 0) rfl
  have r1 := N9.cell (i := 1) rfl
  have r2 := N9.cell (i := 2) rfl
  have r3 := N9.cell (i := 3) rfl
  have r4 := N9.cell (i := 4) rfl
  have r5 := N9.cell (i := 5) rfl
  have r6 := N9.cell (i := 6) rfl
  have r7 := N9.cell (i := 7) rfl
  have r8 := N9.cell (i := 8) rfl
  have r9 := N9.cell (i := 9) rfl
  have r10 := N9.cell (i := 10) rfl
  have r11 := N9.cell (i := 11) rfl
  have hM9 := HM3.out.other NR3 (by decide) (by decide) (by decide) (by decide) (by decide) O9
  have hS9 := HS3.out.newer O9 (Nat.le_refl _)
  exact bodyPost_ret (v := .tuple #[.agg #[.int .i64 f.th.pr, .int .u32 f.th.sr, .int .i64 f.th.sp, .int .u32 f.th.ds, .int .i64 f.th.dp, .int .i64 f.bk.pr, .int .u32 f.bk.sr, .int .i64 f.bk.sp, .int .u32 f.bk.ds, .int .i64 f.bk.dp, .int .i64 f.un, .int .i64 f.no], .int .i64 0]) (by simp [results, Try.results8, go_sem, r0, r1, r2, r3, r4, r5, r6, r7, r8, r9, r10, r11]) rfl ⟨rfl, _, ⟨_, _, _, _, _, _, _, hM9, HI3.out.inv⟩, hS9⟩
set_option maxRecDepth 8000 in
set_option maxHeartbeats 8000000 in
theorem FM.drop_no (h : FM w X sl now) {num : Int} (hn : Fl.thereB sl num = false) :
    Calls Try.prog 8 #[.pointer (some ⟨X.gs, 0, none⟩), .int .i64 num] w fun e w' => e = .returned (.tuple #[.agg #[.int .i64 0, .int .u32 0, .int .i64 0, .int .u32 0, .int .i64 0, .int .i64 0, .int .u32 0, .int .i64 0, .int .u32 0, .int .i64 0, .int .i64 0, .int .i64 0], .int .i64 9]) ∧ Below w.heap.size w w' := by
  obtain ⟨At, ct, tb, c, es, ck, l, h1, h2⟩ := h
  obtain ⟨V, hV⟩ : ∃ V, V = w.alloc (.cells #[.int .i64 0, .int .u32 0, .int .i64 0, .int .u32 0, .int .i64 0, .int .i64 0, .int .u32 0, .int .i64 0, .int .u32 0, .int .i64 0, .int .i64 0, .int .i64 0] 31) := ⟨_, rfl⟩
  have hbV : Below w.heap.size w V := by rw [hV]; exact bel_a (Below.refl _ _) _
  have hNR : BlkV V w.heap.size 31 [.int .i64 0, .int .u32 0, .int .i64 0, .int .u32 0, .int .i64 0, .int .i64 0, .int .u32 0, .int .i64 0, .int .u32 0, .int .i64 0, .int .i64 0, .int .i64 0] := by rw [hV]; exact BlkV.new _ _ _
  have hT := (h1.below hbV).there num
  rw [hn] at hT
  have HT := Lib.hid hT
  have HB := Lib.hid hbV
  clear h1 h2 hbV hT hn
  go_enter Try.func8, Try.ntmps8
  go_upto_region 1 with (fail)
  rw [← hV]
  clear hV
  go_wp2_with fail
  refine HT.out.mono ?_
  rintro e w1 ⟨rfl, rfl⟩
  clear HT
  go_wp2_with (first | (refine wpList_stB 31 _ _ (by with_reducible rfl) rfl (by rfl) [.int .i64 0, .int .u32 0, .int .i64 0, .int .u32 0, .int .i64 0, .int .i64 0, .int .u32 0, .int .i64 0, .int .u32 0, .int .i64 0, .int .i64 0, .int .i64 0] (by rfl) (by exact hNR) (by rfl) (flow_size (by rfl)) (by rfl) ?_; intro w9 N9 O9) | fail)
  have r0 := N9.cell (i := 0) rfl
  have r1 := N9.cell (i := 1) rfl
  have r2 := N9.cell (i := 2) rfl
  have r3 := N9.cell (i := 3) rfl
  have r4 := N9.cell (i := 4) rfl
  have r5 := N9.cell (i := 5) rfl
  have r6 := N9.cell (i := 6) rfl
  have r7 := N9.cell (i := 7) rfl
  have r8 := N9.cell (i := 8) rfl
  have r9 := N9.cell (i := 9) rfl
  have r10 := N9.cell (i := 10) rfl
  have r11 := N9.cell (i := 11) rfl
  exact bodyPost_ret (v := .tuple #[.agg #[.int .i64 0, .int .u32 0, .int .i64 0, .int .u32 0, .int .i64 0, .int .i64 0, .int .u32 0, .int .i64 0, .int .u32 0, .int .i64 0, .int .i64 0, .int .i64 0], .int .i64 9]) (by simp [results, Try.results8, go_sem, r0, r1, r2, r3, r4, r5, r6, r7, r8, r9, r10, r11]) rfl ⟨rfl, O9.bel (Nat.le_refl _) HB.out⟩
theorem Fl.scells_put {sl : Fl.Sl} {i : Nat} {f : Fl.F} (hs : Fl.slot sl i = some f) (t no : Int) : ((Fl.scells sl).set (i * 13 + 11) (.int .i64 t)).set (i * 13 + 12) (.int .i64 no) = Fl.scells (sl.set i (some { f with un := t, no := no })) := by
  have hi := Fl.slot_lt hs
  rw [Fl.scells_split hi, Fl.scells_set hi, hs]
  have hl : (Fl.scells (sl.take i)).length = i * 13 := by rw [Fl.scells_len, List.length_take, Nat.min_eq_left (by omega)]
  obtain ⟨P, hP⟩ : ∃ P, P = Fl.scells (sl.take i) := ⟨_, rfl⟩
  rw [← hP] at hl ⊢
  rw [List.append_assoc, List.append_assoc, List.set_append_right _ _ (by omega), List.set_append_right _ _ (by omega), hl]
  rw [show i * 13 + 11 - i * 13 = 11 by omega, show i * 13 + 12 - i * 13 = 12 by omega]
  rfl
/-- the slots are stored anew -/
theorem FMem.setrow {sl' : Fl.Sl} (h : FMem w X sl At ct tb c es ck l now many) (hb : ∀ k, k ≠ X.gl → w'.heap[k]? = w.heap[k]?) (hz : w'.heap.size = w.heap.size) (hr : BlkV w' X.gl 62 (Fl.scells sl')) (hl : sl'.length = sl.length) (hk : ∀ i f, Fl.slot sl' i = some f → f.th.wf ∧ f.bk.wf) :
    FMem w' X sl' At ct tb c es ck l now many := by
  obtain ⟨a1, a2, a3⟩ := h.apart
  exact ⟨by rw [hl]; exact (hb _ a1).trans h.box, hr, h.tab.keep (fun a ha _ => hb _ (h.far a ha).2.1) (by rw [hz]; exact Nat.le_refl _), fun a ha => (by obtain ⟨vs, hv⟩ := h.tty a ha; exact ⟨vs, (hb _ (h.far a ha).2.1).trans hv⟩),
    h.wh.keep (fun k ho _ => hb _ (fun e => a3 (e ▸ ho))), hk, by rw [hl]; exact h.sm⟩
set_option maxRecDepth 8000 in
set_option maxHeartbeats 8000000 in
theorem FM.set {i : Nat} {f : Fl.F} (h : FM w X sl now) (hs : Fl.slot sl i = some f) {t : Int} (no : Int) (ht : now < t) (ht2 : t ≤ 1099511627776) :
    Calls Try.prog 10 #[.pointer (some ⟨X.gs, 0, none⟩), .int .i64 i, .int .i64 t, .int .i64 no] w fun e w' => e = .returned (.int .i64 0) ∧ Fgo w X (sl.set i (some { f with un := t, no := no })) now w' := by
  obtain ⟨At, ct, tb, c, es, ck, l, h1, h2⟩ := h
  have hT := h1.there i
  rw [Fl.thereB_nat, hs] at hT
  have HT : Hid (Calls Try.prog 21 #[.pointer (some ⟨X.gs, 0, none⟩), .int .i64 i] w fun e w' => e = .returned (.bool true) ∧ w = w') := Lib.hid hT
  have HN := Lib.hid h1.wh.nowc
  have hil := Fl.slot_lt hs
  have hsm := h1.sm
  have hiz : (i : Int) < (sl.length : Int) := by omega
  have hI' := h2.retime hs no ht ht2
  have hcn : Fl.count (sl.set i (some { f with un := t, no := no })) = Fl.count sl := by
    have h3 := Fl.count_set hil (some { f with un := t, no := no })
    rw [hs] at h3
    simpa using h3
  have hsr : Wh.setR l now i t = (0, Wh.setL l i t) := by
    obtain ⟨p, hp1, hp2⟩ := h2.place hs
    have hn0 := h2.n0
    unfold Wh.setR
    rw [if_neg (by omega), if_neg (by omega), if_neg]
    rintro ⟨h6, _⟩
    rw [hp1] at h6
    cases h6
  have HM := Lib.hid h1
  have HI := Lib.hid hI'
  have HSR := Lib.hid hsr
  have HCn := Lib.hid hcn
  have HSl := Lib.hid hs
  obtain ⟨c0, c1, c2, c3⟩ := h1.cells
  clear h1 h2 hT hI' hcn hsr hs c1 c3
  go_enter Try.func10, Try.ntmps10
  go_wp2_with fail
  refine HT.out.mono ?_
  rintro e w1 ⟨rfl, rfl⟩
  clear HT
  go_wp2_with fail
  refine HN.out.mono ?_
  rintro e w1 ⟨rfl, rfl⟩
  clear HN
  go_wp2_with fail
  refine wp_region_held_drew (S := fun w' => w'.cell? ⟨X.gs, 0, none⟩ = some (.slice (some ⟨X.gl, 0, none⟩) sl.length sl.length)) (by kernel_rfl) c0 (fun hHeld => ?_)
  refine wpAnyH_takeD (i := 0) (some 28) (v := ?_) rfl rfl (by kernel_rfl) (by kernel_rfl) (by kernel_rfl) (fun _ _ _ h => h) (Or.inl ⟨by rfl, ?_⟩) (by assumption) ?_
  rotate_left
  · (intro w hSw; (try dsimp only at hSw); go_simp; try with_reducible rfl)
  try simp only [Act.put, List.setIfInBounds_toArray, List.set_cons_zero, List.set_cons_succ]
  refine wpAnyH_takeD (i := 1) (some 29) (v := ?_) rfl rfl (by kernel_rfl) (by kernel_rfl) (by kernel_rfl) (fun _ _ _ h => h) (Or.inl ⟨by rfl, ?_⟩) (by assumption) ?_
  rotate_left
  · (intro w hSw; (try dsimp only at hSw); go_simp; try with_reducible rfl)
  try simp only [Act.put, List.setIfInBounds_toArray, List.set_cons_zero, List.set_cons_succ]
  refine wpAnyH_takeD (i := 2) (some 30) (v := ?_) rfl rfl (by kernel_rfl) (by kernel_rfl) (by kernel_rfl) (fun _ _ _ h => h) (Or.inl ⟨by rfl, ?_⟩) (by assumption) ?_
  rotate_left
  · (intro w hSw; (try dsimp only at hSw); go_simp; try with_reducible rfl)
  try simp only [Act.put, List.setIfInBounds_toArray, List.set_cons_zero, List.set_cons_succ]
  refine wpAnyH_takeD (i := 3) (some 31) (v := ?_) rfl rfl (by kernel_rfl) (by kernel_rfl) (by kernel_rfl) (fun _ _ _ h => h) (Or.inl ⟨by rfl, ?_⟩) (by assumption) ?_
  rotate_left
  · (intro w hSw; (try dsimp only at hSw); go_simp; try with_reducible rfl)
  try simp only [Act.put, List.setIfInBounds_toArray, List.set_cons_zero, List.set_cons_succ]
  refine wpAnyH_takeD (i := 4) (some 32) (v := ?_) rfl rfl (by kernel_rfl) (by kernel_rfl) (by kernel_rfl) (fun _ _ _ h => h) (Or.inl ⟨by rfl, ?_⟩) (by assumption) ?_
  rotate_left
  · (intro w hSw; (try dsimp only at hSw); go_simp; try with_reducible rfl)
  try simp only [Act.put, List.setIfInBounds_toArray, List.set_cons_zero, List.set_cons_succ]
  refine wpAnyH_takeD (i := 5) (some 33) (v := ?_) rfl rfl (by kernel_rfl) (by kernel_rfl) (by kernel_rfl) (fun _ _ _ h => h) (Or.inl ⟨by rfl, ?_⟩) (by assumption) ?_
  rotate_left
  · (intro w hSw; (try dsimp only at hSw); go_simp; try with_reducible rfl)
  try simp only [Act.put, List.setIfInBounds_toArray, List.set_cons_zero, List.set_cons_succ]
  refine wpAnyH_takeD (i := 6) (some 34) (v := ?_) rfl rfl (by kernel_rfl) (by kernel_rfl) (by kernel_rfl) (fun _ _ _ h => h) (Or.inl ⟨by rfl, ?_⟩) (by assumption) ?_
  rotate_left
  · (intro w hSw; (try dsimp only at hSw); go_simp; try with_reducible rfl)
  try simp only [Act.put, List.setIfInBounds_toArray, List.set_cons_zero, List.set_cons_succ]
  refine wpAnyH_takeD (i := 7) (some 35) (v := ?_) rfl rfl (by kernel_rfl) (by kernel_rfl) (by kernel_rfl) (fun _ _ _ h => h) (Or.inl ⟨by rfl, ?_⟩) (by assumption) ?_
  rotate_left
  · (intro w hSw; (try dsimp only at hSw); go_simp; try with_reducible rfl)
  try simp only [Act.put, List.setIfInBounds_toArray, List.set_cons_zero, List.set_cons_succ]
  refine wpAnyH_takeD (i := 8) (some 36) (v := ?_) rfl rfl (by kernel_rfl) (by kernel_rfl) (by kernel_rfl) (fun _ _ _ h => h) (Or.inl ⟨by rfl, ?_⟩) (by assumption) ?_
  rotate_left
  · (intro w hSw; (try dsimp only at hSw); go_simp; try with_reducible rfl)
  try simp only [Act.put, List.setIfInBounds_toArray, List.set_cons_zero, List.set_cons_succ]
  refine wpAnyH_takeD (i := 9) (some 37) (v := ?_) rfl rfl (by kernel_rfl) (by kernel_rfl) (by kernel_rfl) (fun _ _ _ h => h) (Or.inl ⟨by rfl, ?_⟩) (by assumption) ?_
  rotate_left
  · (intro w hSw; (try dsimp only at hSw); go_simp; try with_reducible rfl)
  try simp only [Act.put, List.setIfInBounds_toArray, List.set_cons_zero, List.set_cons_succ]
  refine wpAnyH_takeD (i := 10) (some 38) (v := ?_) rfl rfl (by kernel_rfl) (by kernel_rfl) (by kernel_rfl) (fun _ _ _ h => h) (Or.inl ⟨by rfl, ?_⟩) (by assumption) ?_
  rotate_left
  · (intro w hSw; (try dsimp only at hSw); go_simp; try with_reducible rfl)
  try simp only [Act.put, List.setIfInBounds_toArray, List.set_cons_zero, List.set_cons_succ]
  refine wpAnyH_takeD (i := 11) (some 39) (v := ?_) rfl rfl (by kernel_rfl) (by kernel_rfl) (by kernel_rfl) (fun _ _ _ h => h) (Or.inl ⟨by rfl, ?_⟩) (by assumption) ?_
  rotate_left
  · (intro w hSw; (try dsimp only at hSw); go_simp; try with_reducible rfl)
  try simp only [Act.put, List.setIfInBounds_toArray, List.set_cons_zero, List.set_cons_succ]
  refine wpAnyH_takeD (i := 12) (some 40) (v := ?_) rfl rfl (by kernel_rfl) (by kernel_rfl) (by kernel_rfl) (fun _ _ _ h => h) (Or.inl ⟨by rfl, ?_⟩) (by assumption) ?_
  rotate_left
  · (intro w hSw; (try dsimp only at hSw); go_simp; try with_reducible rfl)
  try simp only [Act.put, List.setIfInBounds_toArray, List.set_cons_zero, List.set_cons_succ]
  refine wpAnyH_takeD (i := 13) (some 41) (v := ?_) rfl rfl (by kernel_rfl) (by kernel_rfl) (by kernel_rfl) (fun _ _ _ h => h) (Or.inl ⟨by rfl, ?_⟩) (by assumption) ?_
  rotate_left
  · (intro w hSw; (try dsimp only at hSw); go_simp; try with_reducible rfl)
  try simp only [Act.put, List.setIfInBounds_toArray, List.set_cons_zero, List.set_cons_succ]
  refine wpAnyH_takeD (i := 14) (some 42) (v := ?_) rfl rfl (by kernel_rfl) (by kernel_rfl) (by kernel_rfl) (fun _ _ _ h => h) (Or.inl ⟨by rfl, ?_⟩) (by assumption) ?_
  rotate_left
  · (intro w hSw; (try dsimp only at hSw); go_simp; try with_reducible rfl)
  try simp only [Act.put, List.setIfInBounds_toArray, List.set_cons_zero, List.set_cons_succ]
  have B0 := HM.out.box
  have R0 : BlkV w.drew X.gl 62 (Fl.scells sl) := HM.out.row
  have hlen : (Fl.scells sl).length = sl.length * 13 := Fl.scells_len sl
  refine wpAnyH_ready (rs := [15]) (by kernel_rfl) (by simp) ?_
  refine AllReadyH.cons (o := _) rfl (fun K hK => ?_) AllReadyH.nil
  rw [if_pos (by rfl)]
  refine wp_stF 3 _ _ (i * 13 + 11) (.int .i64 t) rfl (by rfl) (by rfl) (by rfl) R0 (by rw [hlen]; omega) (by kernel_rfl) rfl ?_
  intro w2 R2 O2
  have hag := HM.out.apart.1
  have c2' : w2.cell? ⟨X.gs, 0, none⟩ = some (.slice (some ⟨X.gl, 0, none⟩) sl.length sl.length) := (BlkV.only (show BlkV w.drew X.gs _ _ from B0) O2 hag).cell rfl
  refine hK.out _ _ c2' (fun hHeld => ?_)
  clear hK K
  try simp only [Act.put, List.setIfInBounds_toArray, List.set_cons_zero, List.set_cons_succ]
  refine wpAnyH_takeD (i := 16) (some 43) (v := ?_) rfl rfl (by kernel_rfl) (by kernel_rfl) (by kernel_rfl) (fun _ _ _ h => h) (Or.inl ⟨by rfl, ?_⟩) (by assumption) ?_
  rotate_left
  · (intro w hSw; (try dsimp only at hSw); go_simp; try with_reducible rfl)
  try simp only [Act.put, List.setIfInBounds_toArray, List.set_cons_zero, List.set_cons_succ]
  refine wpAnyH_takeD (i := 17) (some 44) (v := ?_) rfl rfl (by kernel_rfl) (by kernel_rfl) (by kernel_rfl) (fun _ _ _ h => h) (Or.inl ⟨by rfl, ?_⟩) (by assumption) ?_
  rotate_left
  · (intro w hSw; (try dsimp only at hSw); go_simp; try with_reducible rfl)
  try simp only [Act.put, List.setIfInBounds_toArray, List.set_cons_zero, List.set_cons_succ]
  refine wpAnyH_takeD (i := 18) (some 45) (v := ?_) rfl rfl (by kernel_rfl) (by kernel_rfl) (by kernel_rfl) (fun _ _ _ h => h) (Or.inl ⟨by rfl, ?_⟩) (by assumption) ?_
  rotate_left
  · (intro w hSw; (try dsimp only at hSw); go_simp; try with_reducible rfl)
  try simp only [Act.put, List.setIfInBounds_toArray, List.set_cons_zero, List.set_cons_succ]
  refine wpAnyH_ready (rs := [19]) (by kernel_rfl) (by simp) ?_
  refine AllReadyH.cons (o := _) rfl (fun K hK => ?_) AllReadyH.nil
  rw [if_pos (by rfl)]
  refine wp_stF 3 _ _ (i * 13 + 12) (.int .i64 no) rfl (by rfl) (by rfl) (by rfl) R2 (by rw [List.length_set, hlen]; omega) (by kernel_rfl) rfl ?_
  intro w3 R3 O3
  rw [Fl.scells_put HSl.out] at R3
  have hM3 := (HM.out.below (bel_d (Below.refl _ w))).setrow (w' := w3) (fun k hk => (O3.block k hk).trans (O2.block k hk)) (by rw [O3.size, O2.size]) R3 (by simp) (fun j g hg => by
    rw [Fl.slot_set hil] at hg
    by_cases e : j = i
    · rw [if_pos e] at hg
      injection hg with hg
      subst hg
      exact HM.out.kwf i f HSl.out
    · rw [if_neg e] at hg
      exact HM.out.kwf j g hg)
  have HM3 := Lib.hid hM3
  have hS2 : FStep w w2 X X := (FStep.of_below X (bel_d (Below.refl _ w))).trans (FStep.of_only X O2 (Or.inr (Or.inl rfl)))
  have HS3 := Lib.hid (hS2.trans (FStep.of_only X O3 (Or.inr (Or.inl rfl))))
  refine hK.out _ _ (by have := hM3.cells.1; rw [List.length_set] at this; exact this) (fun hHeld => ?_)
  clear hK K
  try simp only [Act.put, List.setIfInBounds_toArray, List.set_cons_zero, List.set_cons_succ]
  refine wpAnyH_done (by kernel_rfl) ?_ _
  have hP := HM3.out.wh.set i t
  rw [HSR.out] at hP
  have HP := Lib.hid hP
  obtain ⟨c0', c1', c2'', c3'⟩ := HM3.out.cells
  clear hHeld c2 c2' B0 R0 hlen R2 O2 R3 O3 hM3 hS2 hP c0 HM c0' c1' c3'
  go_wp2_with fail
  refine HP.out.mono ?_
  rintro e w4 ⟨rfl, hG⟩
  obtain ⟨L', c', es', ck', hM4, hS4⟩ := HM3.out.wheel hG
  have HM4 := Lib.hid hM4
  have HS4 := Lib.hid (HS3.out.trans hS4)
  clear hG hM4 hS4 HP HM3 HS3
  go_wp2_with fail
  go_ret
  exact ⟨rfl, _, ⟨_, _, _, _, _, _, _, by rw [HCn.out]; exact HM4.out, HI.out⟩, HS4.out⟩
/-- Set refuses -/
def Fl.setE (sl : Fl.Sl) (now num t : Int) : Int := if Fl.thereB sl num = false then 9 else if 1099511627776 < t then 1 else if t ≤ now then 14 else 0
set_option maxHeartbeats 8000000 in
theorem FM.set_no {num t : Int} (no : Int) (h : FM w X sl now) {v : Int} (hv : Fl.setE sl now num t = v) (hne : v ≠ 0) :
    Calls Try.prog 10 #[.pointer (some ⟨X.gs, 0, none⟩), .int .i64 num, .int .i64 t, .int .i64 no] w fun e w' => e = .returned (.int .i64 v) ∧ w = w' := by
  obtain ⟨At, ct, tb, c, es, ck, l, h1, h2⟩ := h
  have hT := h1.there num
  have HN := Lib.hid h1.wh.nowc
  obtain ⟨c0, c1, c2, c3⟩ := h1.cells
  unfold Fl.setE at hv
  clear h1 h2 c0 c1 c3
  cases hb : Fl.thereB sl num with
  | false =>
    rw [hb] at hT hv
    rw [if_pos rfl] at hv
    subst hv
    have HT := Lib.hid hT
    clear hT hb
    go_enter Try.func10, Try.ntmps10
    go_wp2_with fail
    refine HT.out.mono ?_
    rintro e w1 ⟨rfl, rfl⟩
    go_wp2_with fail
    go_ret
    exact ⟨rfl, rfl⟩
  | true =>
    rw [hb] at hT hv
    rw [if_neg (by simp)] at hv
    have HT := Lib.hid hT
    clear hT hb
    by_cases h3 : 1099511627776 < t
    · rw [if_pos h3] at hv
      subst hv
      go_enter Try.func10, Try.ntmps10
      go_wp2_with fail
      refine HT.out.mono ?_
      rintro e w1 ⟨rfl, rfl⟩
      go_wp2_with fail
      go_ret
      exact ⟨rfl, rfl⟩
    · rw [if_neg h3] at hv
      by_cases h4 : t ≤ now
      · rw [if_pos h4] at hv
        subst hv
        go_enter Try.func10, Try.ntmps10
        go_wp2_with fail
        refine HT.out.mono ?_
        rintro e w1 ⟨rfl, rfl⟩
        clear HT
        go_wp2_with fail
        refine HN.out.mono ?_
        rintro e w1 ⟨rfl, rfl⟩
        go_wp2_with fail
        go_ret
        exact ⟨rfl, rfl⟩
      · rw [if_neg h4] at hv
        exact absurd hv.symm hne
end
end Go.Proofs.Ytdboehogkmidbaa
