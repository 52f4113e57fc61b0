/- The walk of flows.New. -/
import Derived.Test.YtdboehogkmidbaaFlAll
namespace Go.Proofs.Ytdboehogkmidbaa
open Go.RowKit
set_option linter.unusedVariables false
set_option linter.unusedSimpArgs false
theorem infoS : (Try.prog.info? 62).map (fun i => (i.zero, i.size, i.bytes)) = some (some (.agg #[Value.bool false, .int .i64 0, .int .u32 0, .int .i64 0, .int .u32 0, .int .i64 0, .int .i64 0, .int .u32 0, .int .i64 0, .int .u32 0, .int .i64 0, .int .i64 0, .int .i64 0]), 13, 104) := by kernel_rfl
theorem made13 (n : Nat) : madeCells #[Value.bool false, .int .i64 0, .int .u32 0, .int .i64 0, .int .u32 0, .int .i64 0, .int .i64 0, .int .u32 0, .int .i64 0, .int .u32 0, .int .i64 0, .int .i64 0, .int .i64 0] (n * 13) = (Fl.scells (List.replicate n none)).toArray := by
  apply Array.ext'
  apply List.ext_getElem?
  intro j
  by_cases hj : j < n * 13
  · have h1 : (madeCells #[Value.bool false, .int .i64 0, .int .u32 0, .int .i64 0, .int .u32 0, .int .i64 0, .int .i64 0, .int .u32 0, .int .i64 0, .int .u32 0, .int .i64 0, .int .i64 0, .int .i64 0] (n * 13)).toList[j]? = some (#[Value.bool false, .int .i64 0, .int .u32 0, .int .i64 0, .int .u32 0, .int .i64 0, .int .i64 0, .int .u32 0, .int .i64 0, .int .u32 0, .int .i64 0, .int .i64 0, .int .i64 0][j % 13]!) := by
      simp [madeCells, hj]
    rw [h1]
    have hk : j / 13 < (List.replicate n (none : Option Fl.F)).length := by simp; omega
    have hat : Fl.slot (List.replicate n (none : Option Fl.F)) (j / 13) = none := by rw [Fl.slot_get hk]; simp
    have := Fl.scells_get (List.replicate n none) (j / 13) (j % 13) (#[Value.bool false, .int .i64 0, .int .u32 0, .int .i64 0, .int .u32 0, .int .i64 0, .int .i64 0, .int .u32 0, .int .i64 0, .int .u32 0, .int .i64 0, .int .i64 0, .int .i64 0][j % 13]!) hk (by
      rw [hat]
      rcases (show j % 13 = 0 ∨ j % 13 = 1 ∨ j % 13 = 2 ∨ j % 13 = 3 ∨ j % 13 = 4 ∨ j % 13 = 5 ∨ j % 13 = 6 ∨ j % 13 = 7 ∨ j % 13 = 8 ∨ j % 13 = 9 ∨ j % 13 = 10 ∨ j % 13 = 11 ∨ j % 13 = 12 by omega) with h | h | h | h | h | h | h | h | h | h | h | h | h <;> rw [h] <;> rfl)
    rw [show j / 13 * 13 + j % 13 = j by omega] at this
    exact this.symm
  · rw [List.getElem?_eq_none (by simp [madeCells]; omega), List.getElem?_eq_none (by show (Fl.scells _).length ≤ j; rw [Fl.scells_len]; simp; omega)]
theorem wp_make13 {w : World} {o : Oper} {a : Act} {K : Act → World → Prop} {Q : Exit → Act → World → Prop} (l c : Operand) (hop : o.op = Op.makeSlice 55 l c)
    (n : Nat) (hl : a.eval l = .int .i64 n) (hc : a.eval c = .int .i64 n) (b2 : n ≤ 1000000)
    (h : K (a.put o.dst (.slice (some ⟨w.heap.size, 0, none⟩) n n)) (w.alloc (.cells (Fl.scells (List.replicate n none)).toArray 62))) : o.wp Try.prog a w K Q := by
  obtain ⟨i, hi, hz, hsize, hby⟩ := info_parts infoS
  have hrun := run_make (P := Try.prog) w 55 62 i _ Try.underlying55 hi hz .i64 .i64 (n : Int) (n : Int) (Int.natCast_nonneg n) (Int.le_refl _) (by rw [hby]; show (104 : Int) * (n : Int) ≤ 281474976710656; omega) (by show (n : Int) ≤ 9223372036854775807; omega)
  have e1 : (madeCells (Value.agg #[Value.bool false, .int .i64 0, .int .u32 0, .int .i64 0, .int .u32 0, .int .i64 0, .int .i64 0, .int .u32 0, .int .i64 0, .int .u32 0, .int .i64 0, .int .i64 0, .int .i64 0]).cells ((n : Int).toNat * i.size)) = (Fl.scells (List.replicate n none)).toArray := by
    rw [hsize, Int.toNat_natCast]
    exact made13 n
  rw [e1, Int.toNat_natCast] at hrun
  unfold Oper.wp
  simp [execOp, hop, hl, hc, hrun, Result.andThen]
  exact h
theorem new_at (n : Nat) (w : World) (h : Idx.size n = true) :
    Calls Try.prog 16 #[.int .i64 n] w fun e w' => ∃ g, e = .returned (.tuple #[.slice (some ⟨g, 0, none⟩) n n, .int .i64 0]) ∧ TabR w' (some ⟨g, 0, none⟩) n (List.replicate n Idx.Cell.nil) ∧ Below w.heap.size w w' ∧ w.heap.size ≤ g ∧ ∃ vs, BlkV w' g 82 vs := by
  have hb := Idx.size_bd h
  have HP := Lib.hid (places_spec n w (by omega) (by omega))
  rw [h] at HP
  clear h
  have HTO : Hid (TabO (w.alloc (.cells (tcells (List.replicate n Idx.Cell.nil)).toArray 82)) w.heap.size n (List.replicate n Idx.Cell.nil) []) := Lib.hid ⟨by simp, fun c hc => by rw [List.eq_of_mem_replicate hc]; exact nil_wf, by rw [List.append_nil]; exact BlkV.new _ _ _⟩
  go_enter Try.func16, Try.ntmps16
  go_wp2_with (first | ((with_reducible refine HP.out.mono ?_); rintro e w' ⟨rfl, rfl⟩) | (refine wpList_make7 rfl (.tmp 7) (.tmp 7) rfl n rfl rfl (by omega) ?_))
  go_ret2
  exact ⟨_, rfl, HTO.out.rd, bel_al2 (Below.refl _ _) _, Nat.le_refl _, _, BlkV.new _ _ _⟩
theorem fnew_bad (n : Int) (w : World) (h : n < 1 ∨ 256 < n) : Calls Try.prog 6 #[.int .i64 n] w fun e w' => e = .returned (.tuple #[.pointer none, .int .i64 1]) ∧ w = w' := by
  have h5 : n < 1 ∨ (¬ n < 1 ∧ 256 < n) := by omega
  clear h
  rcases h5 with p1 | ⟨p1, p2⟩
  all_goals
    go_enter Try.func6, Try.ntmps6
    go_wp2_with fail
    go_ret2
    exact ⟨rfl, rfl⟩
theorem FM.make {w : World} {gs gl gt : Nat} {L : Loc} {n : Nat} {vs : List Value} (hn : n ≤ 256)
    (hb : BlkV w gs 59 [.slice (some ⟨gl, 0, none⟩) n n, .slice (some ⟨gt, 0, none⟩) 1024 1024, .pointer (some ⟨L.gw, 0, none⟩), .int .i64 0])
    (hr : BlkV w gl 62 (Fl.scells (List.replicate n none))) (ht : TabR w (some ⟨gt, 0, none⟩) 1024 (List.replicate 1024 Idx.Cell.nil)) (hty : BlkV w gt 82 vs) (hw : WM w L 0 [] 0 [] 0) :
    FM w ⟨gs, gl, L⟩ (List.replicate n none) 0 := by
  have hI := Fl.Inv.new n hn
  have hc : Fl.count (List.replicate n (none : Option Fl.F)) = 0 := by
    unfold Fl.count
    exact List.countP_eq_zero.2 (fun a ha => by rw [List.eq_of_mem_replicate ha]; simp)
  refine ⟨_, _, _, _, _, _, _, ⟨by rw [hc]; simpa using hb, hr, ht, fun a ha => ?_, hw, fun i f hf => ?_, by simpa using hn⟩, hI⟩
  · injection ha with ha
    subst ha
    exact ⟨_, hty⟩
  · have h1 := Fl.slot_lt hf
    rw [Fl.slot_get h1] at hf
    simp at hf
set_option maxRecDepth 8000 in
set_option maxHeartbeats 8000000 in
theorem fnew_ok (n : Nat) (w : World) (h1 : 1 ≤ n) (h2 : n ≤ 256) :
    Calls Try.prog 6 #[.int .i64 n] w fun e w' => ∃ X : FLoc, e = .returned (.tuple #[.pointer (some ⟨X.gs, 0, none⟩), .int .i64 0]) ∧ FM w' X (List.replicate n none) 0 ∧ Below w.heap.size w w' ∧ ∀ k, X.own k → w.heap.size ≤ k := by
  have HT := Lib.hid (new_at 1024 w (by decide))
  have h1z : (1 : Int) ≤ (n : Int) := by omega
  have h2z : (n : Int) ≤ 256 := by omega
  go_enter Try.func6, Try.ntmps6
  go_wp2_with fail
  refine HT.out.mono ?_
  rintro e w1 ⟨gt, rfl, hT1, hb1, hg1, vs, hty1⟩
  have HT1 := Lib.hid hT1
  have HB1 := Lib.hid hb1
  have HTy := Lib.hid hty1
  have HG1 := Lib.hid hg1
  clear hT1 hb1 hty1 hg1 HT
  go_wp2_with fail
  refine wp_region_held_drew (S := fun w' => True) (by kernel_rfl) trivial (fun hHeld => ?_)
  refine wpAnyH_takeD (i := 0) (some 16) (v := ?_) rfl rfl (by kernel_rfl) (by kernel_rfl) (by kernel_rfl) (fun _ _ _ h => h) (Or.inl ⟨by rfl, ?_⟩) (by assumption) ?_
  rotate_left
  · (intro w hSw; (try dsimp only at hSw); go_simp; try with_reducible rfl)
  try simp only [Act.put, List.setIfInBounds_toArray, List.set_cons_zero, List.set_cons_succ]
  refine wpAnyH_takeD (i := 2) (some 18) (v := ?_) rfl rfl (by kernel_rfl) (by kernel_rfl) (by kernel_rfl) (fun _ _ _ h => h) (Or.inl ⟨by rfl, ?_⟩) (by assumption) ?_
  rotate_left
  · (intro w hSw; (try dsimp only at hSw); go_simp; try with_reducible rfl)
  try simp only [Act.put, List.setIfInBounds_toArray, List.set_cons_zero, List.set_cons_succ]
  refine wpAnyH_ready (rs := [1, 3]) (by kernel_rfl) (by simp) ?_
  refine AllReadyH.cons (o := _) rfl (fun K hK => ?_) (AllReadyH.cons (o := _) rfl (fun K hK => ?_) AllReadyH.nil)
  · rw [if_pos (by rfl)]
    refine wp_make13 _ _ (by rfl) n (by rfl) (by rfl) (by omega) ?_
    obtain ⟨w2, hw2⟩ : ∃ w2, w2 = w1.drew.alloc (.cells (Fl.scells (List.replicate n none)).toArray 62) := ⟨_, rfl⟩
    have hb2 : Below w1.heap.size w1 w2 := by rw [hw2]; exact bel_a (bel_d (Below.refl _ w1)) _
    have hr2 : BlkV w2 w1.heap.size 62 (Fl.scells (List.replicate n none)) := by rw [hw2]; exact BlkV.new_at _ _ _ rfl
    obtain ⟨gl, hgl0⟩ : ∃ gl, gl = w1.heap.size := ⟨_, rfl⟩
    rw [← hw2, show w1.drew.heap.size = gl from hgl0.symm]
    rw [← hgl0] at hr2
    have HGl := Lib.hid hgl0
    refine hK.out _ _ trivial (fun hHeld => ?_)
    clear hK K
    try simp only [Act.put, List.setIfInBounds_toArray, List.set_cons_zero, List.set_cons_succ]
    clear hw2 hgl0
    have HW := Lib.hid (wnew_spec w2)
    refine wpAnyH_ready (rs := [3]) (by kernel_rfl) (by simp) ?_
    refine AllReadyH.cons (o := _) rfl (fun K hK => ?_) AllReadyH.nil
    go_simp
    refine HW.out.mono ?_
    rintro e w3 ⟨gw, gm, rfl, hgw, hgm, hb3, hW3⟩
    go_simp
    refine hK.out _ _ trivial (fun hHeld => ?_)
    clear hK K
    try simp only [Act.put, List.setIfInBounds_toArray, List.set_cons_zero, List.set_cons_succ]
    refine wpAnyH_takeD (i := 4) (some 20) (v := ?_) rfl rfl (by kernel_rfl) (by kernel_rfl) (by kernel_rfl) (fun _ _ _ h => h) (Or.inl ⟨by rfl, ?_⟩) (by assumption) ?_
    rotate_left
    · (intro w hSw; (try dsimp only at hSw); go_simp; try with_reducible rfl)
    try simp only [Act.put, List.setIfInBounds_toArray, List.set_cons_zero, List.set_cons_succ]
    have hr3 := hr2.below hb3
    have hbt := bel_then hb2 hb3
    have hg2 : w1.heap.size ≤ w2.heap.size := hb2.size
    have hgl : w.heap.size ≤ gl := by rw [HGl.out]; exact HB1.out.size
    have hN : BlkV (w3.alloc (.cells #[.slice (some ⟨gl, 0, none⟩) n n, .slice (some ⟨gt, 0, none⟩) 1024 1024, .pointer (some ⟨gw, 0, none⟩), .int .i64 0] 59)) w3.heap.size 59 [.slice (some ⟨gl, 0, none⟩) n n, .slice (some ⟨gt, 0, none⟩) 1024 1024, .pointer (some ⟨gw, 0, none⟩), .int .i64 0] := BlkV.new _ _ _
    have hb4 : Below w3.heap.size w3 (w3.alloc (.cells #[.slice (some ⟨gl, 0, none⟩) n n, .slice (some ⟨gt, 0, none⟩) 1024 1024, .pointer (some ⟨gw, 0, none⟩), .int .i64 0] 59)) := bel_a (Below.refl _ _) _
    have HF : Hid (FM (w3.alloc (.cells #[.slice (some ⟨gl, 0, none⟩) n n, .slice (some ⟨gt, 0, none⟩) 1024 1024, .pointer (some ⟨gw, 0, none⟩), .int .i64 0] 59)) ⟨w3.heap.size, gl, ⟨gw, none, gm⟩⟩ (List.replicate n none) 0) := Lib.hid
      (FM.make h2 hN (hr3.below hb4) ((HT1.out.below hbt).below hb4) ((HTy.out.below hbt).below hb4) (hW3.below hb4))
    have HB4 := Lib.hid (bel_then (bel_then HB1.out hbt) hb4)
    have HO : Hid (∀ k, (⟨w3.heap.size, gl, ⟨gw, none, gm⟩⟩ : FLoc).own k → w.heap.size ≤ k) := Lib.hid (by
      have h7 := HB1.out.size
      have h8 := hbt.size
      rintro k (e | e | e | e | e)
      · rw [e]; exact Nat.le_trans h7 h8
      · rw [e]; show w.heap.size ≤ gl; omega
      · rw [e]; show w.heap.size ≤ gw; omega
      · rw [e]; show w.heap.size ≤ gm; omega
      · cases e)
    clear hN hb4 hr3 hW3 hbt
    refine wpAnyH_ready (rs := [5]) (by kernel_rfl) (by simp) ?_
    refine AllReadyH.cons (o := _) rfl (fun K hK => ?_) AllReadyH.nil
    go_simp
    refine hK.out _ _ trivial (fun hHeld => ?_)
    clear hK K
    try simp only [Act.put, List.setIfInBounds_toArray, List.set_cons_zero, List.set_cons_succ]
    refine wpAnyH_takeD (i := 6) (some 2) (v := ?_) rfl rfl (by kernel_rfl) (by kernel_rfl) (by kernel_rfl) (fun _ _ _ h => h) (Or.inl ⟨by rfl, ?_⟩) (by assumption) ?_
    rotate_left
    · (intro w hSw; (try dsimp only at hSw); go_simp; try with_reducible rfl)
    try simp only [Act.put, List.setIfInBounds_toArray, List.set_cons_zero, List.set_cons_succ]
    refine wpAnyH_takeD (i := 7) (some 3) (v := ?_) rfl rfl (by kernel_rfl) (by kernel_rfl) (by kernel_rfl) (fun _ _ _ h => h) (Or.inl ⟨by rfl, ?_⟩) (by assumption) ?_
    rotate_left
    · (intro w hSw; (try dsimp only at hSw); go_simp; try with_reducible rfl)
    try simp only [Act.put, List.setIfInBounds_toArray, List.set_cons_zero, List.set_cons_succ]
    refine wpAnyH_done (by kernel_rfl) ?_ _
    go_wp2_with fail
    go_ret2
    exact ⟨⟨w3.heap.size, gl, ⟨gw, none, gm⟩⟩, rfl, HF.out, HB4.out, HO.out⟩
  · have HW := Lib.hid (wnew_spec w1.drew)
    go_simp
    refine HW.out.mono ?_
    rintro e w2 ⟨gw, gm, rfl, hgw, hgm, hb2, hW2⟩
    have hb2' := bel_then (bel_d (Below.refl _ w1)) hb2
    have hgw' : w1.heap.size ≤ gw := hgw
    have hgm' : w1.heap.size ≤ gm := hgm
    go_simp
    refine hK.out _ _ trivial (fun hHeld => ?_)
    clear hK K
    try simp only [Act.put, List.setIfInBounds_toArray, List.set_cons_zero, List.set_cons_succ]
    refine wpAnyH_ready (rs := [1]) (by kernel_rfl) (by simp) ?_
    refine AllReadyH.cons (o := _) rfl (fun K hK => ?_) AllReadyH.nil
    rw [if_pos (by rfl)]
    refine wp_make13 _ _ (by rfl) n (by rfl) (by rfl) (by omega) ?_
    obtain ⟨w3, hw3⟩ : ∃ w3, w3 = w2.alloc (.cells (Fl.scells (List.replicate n none)).toArray 62) := ⟨_, rfl⟩
    have hb3 : Below w2.heap.size w2 w3 := by rw [hw3]; exact bel_a (Below.refl _ _) _
    obtain ⟨gl, hgl0⟩ : ∃ gl, gl = w2.heap.size := ⟨_, rfl⟩
    have hr3 : BlkV w3 gl 62 (Fl.scells (List.replicate n none)) := by rw [hw3, hgl0]; exact BlkV.new _ _ _
    rw [← hw3, ← hgl0]
    have HGl := Lib.hid hgl0
    clear hgl0
    refine hK.out _ _ trivial (fun hHeld => ?_)
    clear hK K
    try simp only [Act.put, List.setIfInBounds_toArray, List.set_cons_zero, List.set_cons_succ]
    refine wpAnyH_takeD (i := 4) (some 20) (v := ?_) rfl rfl (by kernel_rfl) (by kernel_rfl) (by kernel_rfl) (fun _ _ _ h => h) (Or.inl ⟨by rfl, ?_⟩) (by assumption) ?_
    rotate_left
    · (intro w hSw; (try dsimp only at hSw); go_simp; try with_reducible rfl)
    try simp only [Act.put, List.setIfInBounds_toArray, List.set_cons_zero, List.set_cons_succ]
    have hW3 := hW2.below hb3
    have hbt := bel_then hb2' hb3
    have hgl : w.heap.size ≤ gl := by rw [HGl.out]; exact Nat.le_trans HB1.out.size hb2'.size
    clear hw3 hW2 hb2 hb2' hb3
    have hN : BlkV (w3.alloc (.cells #[.slice (some ⟨gl, 0, none⟩) n n, .slice (some ⟨gt, 0, none⟩) 1024 1024, .pointer (some ⟨gw, 0, none⟩), .int .i64 0] 59)) w3.heap.size 59 [.slice (some ⟨gl, 0, none⟩) n n, .slice (some ⟨gt, 0, none⟩) 1024 1024, .pointer (some ⟨gw, 0, none⟩), .int .i64 0] := BlkV.new _ _ _
    have hb4 : Below w3.heap.size w3 (w3.alloc (.cells #[.slice (some ⟨gl, 0, none⟩) n n, .slice (some ⟨gt, 0, none⟩) 1024 1024, .pointer (some ⟨gw, 0, none⟩), .int .i64 0] 59)) := bel_a (Below.refl _ _) _
    have HF : Hid (FM (w3.alloc (.cells #[.slice (some ⟨gl, 0, none⟩) n n, .slice (some ⟨gt, 0, none⟩) 1024 1024, .pointer (some ⟨gw, 0, none⟩), .int .i64 0] 59)) ⟨w3.heap.size, gl, ⟨gw, none, gm⟩⟩ (List.replicate n none) 0) := Lib.hid
      (FM.make h2 hN (hr3.below hb4) ((HT1.out.below hbt).below hb4) ((HTy.out.below hbt).below hb4) (hW3.below hb4))
    have HB4 := Lib.hid (bel_then (bel_then HB1.out hbt) hb4)
    have HO : Hid (∀ k, (⟨w3.heap.size, gl, ⟨gw, none, gm⟩⟩ : FLoc).own k → w.heap.size ≤ k) := Lib.hid (by
      have h7 := HB1.out.size
      have h8 := hbt.size
      rintro k (e | e | e | e | e)
      · rw [e]; exact Nat.le_trans h7 h8
      · rw [e]; show w.heap.size ≤ gl; omega
      · rw [e]; show w.heap.size ≤ gw; omega
      · rw [e]; show w.heap.size ≤ gm; omega
      · cases e)
    clear hN hb4 hr3 hW3 hbt
    refine wpAnyH_ready (rs := [5]) (by kernel_rfl) (by simp) ?_
    refine AllReadyH.cons (o := _) rfl (fun K hK => ?_) AllReadyH.nil
    go_simp
    refine hK.out _ _ trivial (fun hHeld => ?_)
    clear hK K
    try simp only [Act.put, List.setIfInBounds_toArray, List.set_cons_zero, List.set_cons_succ]
    refine wpAnyH_takeD (i := 6) (some 2) (v := ?_) rfl rfl (by kernel_rfl) (by kernel_rfl) (by kernel_rfl) (fun _ _ _ h => h) (Or.inl ⟨by rfl, ?_⟩) (by assumption) ?_
    rotate_left
    · (intro w hSw; (try dsimp only at hSw); go_simp; try with_reducible rfl)
    try simp only [Act.put, List.setIfInBounds_toArray, List.set_cons_zero, List.set_cons_succ]
    refine wpAnyH_takeD (i := 7) (some 3) (v := ?_) rfl rfl (by kernel_rfl) (by kernel_rfl) (by kernel_rfl) (fun _ _ _ h => h) (Or.inl ⟨by rfl, ?_⟩) (by assumption) ?_
    rotate_left
    · (intro w hSw; (try dsimp only at hSw); go_simp; try with_reducible rfl)
    try simp only [Act.put, List.setIfInBounds_toArray, List.set_cons_zero, List.set_cons_succ]
    refine wpAnyH_done (by kernel_rfl) ?_ _
    go_wp2_with fail
    go_ret2
    exact ⟨⟨w3.heap.size, gl, ⟨gw, none, gm⟩⟩, rfl, HF.out, HB4.out, HO.out⟩
end Go.Proofs.Ytdboehogkmidbaa
