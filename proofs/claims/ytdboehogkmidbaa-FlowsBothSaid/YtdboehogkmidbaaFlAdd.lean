/- The walk of flows.Add. -/
import Derived.Test.YtdboehogkmidbaaFlMay
import Derived.IntWalk
namespace Go.Proofs.Ytdboehogkmidbaa
open Go.RowKit
set_option linter.unusedVariables false
set_option linter.unusedSimpArgs false
section
variable {w w' : World} {X : FLoc} {sl : Fl.Sl} {At : Option Addr} {ct : Nat} {tb : List Idx.Cell} {c : Nat} {es : List Mi.E} {ck : Nat} {l : List Wh.Al} {now : Int} {many : Nat}
theorem FMem.room (h : FMem w X sl At ct tb c es ck l now many) {p : Nat} (hp : p < sl.length) : w.there X.gl (p * 13) 13 := fun j hj => by
  refine ⟨?_, h.row.unfrozen _⟩
  have hl : p * 13 + j < (Fl.scells sl).length := by rw [Fl.scells_len]; omega
  rw [h.row.cell (List.getElem?_eq_getElem hl)]
  rfl
theorem Fl.scell_one (o : Option Fl.F) : ∀ v ∈ Fl.scell o, v.oneCell' = true := by
  intro v hv
  unfold Fl.scell Fl.F.cells at hv
  simp only [List.mem_cons, List.not_mem_nil, or_false] at hv
  rcases hv with rfl | rfl | rfl | rfl | rfl | rfl | rfl | rfl | rfl | rfl | rfl | rfl | rfl <;> rfl
/-- a slot is stored, in a region walked by hand -/
theorem FMem.wp_put {P : Program} {op : Oper} {a : Act} {K : Act → World → Prop} {Q : Exit → Act → World → Prop} (h : FMem w X sl At ct tb c es ck l now many) {p : Nat} (hp : p < sl.length) (o : Option Fl.F) (ho : ∀ f, o = some f → f.th.wf ∧ f.bk.wf)
    (ty : TypeId) (x y : Operand) (hd : op.dst = none) (hop : op.op = .store ty x y) (hx : a.eval x = .pointer (some ⟨X.gl, p * 13, none⟩)) (hy : a.eval y = .agg (Fl.scell o).toArray) (hi : (P.info? ty).map (·.size) = some 13)
    (hk : ∀ w', FMem w' X (sl.set p o) At ct tb c es ck l now many → OnlyB X.gl w w' → K a w') : op.wp P a w K Q :=
  wp_store_mid ty x y hop X.gl (p * 13) (Fl.scell o).toArray hx hy (h.room hp) hi (all_oneCell_toArray (Fl.scell_one o)) (by rw [hd]; obtain ⟨h1, h2⟩ := h.put hp o ho; exact hk _ h1 h2)
theorem FMem.wpList_put {P : Program} {ops : Array Oper} {rest : List Oper} {op : Oper} {a : Act} {Q : Exit → Act → World → Prop} (h : FMem w X sl At ct tb c es ck l now many) {p : Nat} (hp : p < sl.length) (o : Option Fl.F) (ho : ∀ f, o = some f → f.th.wf ∧ f.bk.wf)
    (ty : TypeId) (x y : Operand) (hd : op.dst = none) (hgd : op.guard = none) (hop : op.op = .store ty x y) (hx : a.eval x = .pointer (some ⟨X.gl, p * 13, none⟩)) (hy : a.eval y = .agg (Fl.scell o).toArray) (hi : (P.info? ty).map (·.size) = some 13)
    (hk : ∀ w', FMem w' X (sl.set p o) At ct tb c es ck l now many → OnlyB X.gl w w' → wpList P ops Q rest a w') : wpList P ops Q (op :: rest) a w :=
  wpList_plain hgd fun _ hK => h.wp_put hp o ho ty x y hd hop hx hy hi fun w' h1 h2 => hK _ _ (hk w' h1 h2)
set_option maxHeartbeats 4000000 in
theorem FMem.add_no (h : FMem w X sl At ct tb c es ck l now many) (f : Fl.F) (hk1 : f.th.wf) (hk2 : f.bk.wf) {v : Int} (hv : Fl.mayV tb sl.length now many f = v) (hne : v ≠ 0) :
    Calls Try.prog 7 #[.pointer (some ⟨X.gs, 0, none⟩), .agg #[.int .i64 f.th.pr, .int .u32 f.th.sr, .int .i64 f.th.sp, .int .u32 f.th.ds, .int .i64 f.th.dp, .int .i64 f.bk.pr, .int .u32 f.bk.sr, .int .i64 f.bk.sp, .int .u32 f.bk.ds, .int .i64 f.bk.dp, .int .i64 f.un, .int .i64 f.no]] w fun e w' => e = .returned (.tuple #[.int .i64 0, .int .i64 v]) ∧ Below w.heap.size w w' := by
  obtain ⟨W, hW⟩ : ∃ W, W = w.alloc (.cells #[.int .i64 f.th.pr, .int .u32 f.th.sr, .int .i64 f.th.sp, .int .u32 f.th.ds, .int .i64 f.th.dp, .int .i64 f.bk.pr, .int .u32 f.bk.sr, .int .i64 f.bk.sp, .int .u32 f.bk.ds, .int .i64 f.bk.dp, .int .i64 f.un, .int .i64 f.no] 31) := ⟨_, rfl⟩
  have hbW : Below w.heap.size w W := by rw [hW]; exact bel_a (Below.refl _ _) _
  obtain ⟨W0, hW0⟩ : ∃ W0, W0 = w.heap.size := ⟨_, rfl⟩
  have hN : BlkV W W0 31 [.int .i64 f.th.pr, .int .u32 f.th.sr, .int .i64 f.th.sp, .int .u32 f.th.ds, .int .i64 f.th.dp, .int .i64 f.bk.pr, .int .u32 f.bk.sr, .int .i64 f.bk.sp, .int .u32 f.bk.ds, .int .i64 f.bk.dp, .int .i64 f.un, .int .i64 f.no] := by rw [hW, hW0]; exact BlkV.new _ _ _
  obtain ⟨f0, f1, f2, f3, f4, f5, f6, f7, f8, f9, f10, f11⟩ := hN.flow
  have hC := (h.below hbW).may f hk1 hk2
  rw [hv] at hC
  have HC := Lib.hid hC
  have HB := Lib.hid hbW
  have hvb : (v != 0) = true := by simp [hne]
  clear h hbW hN hk1 hk2 hC hv
  go_enter Try.func7, Try.ntmps7
  go_upto_region 3 with (fail)
  rw [← hW, ← hW0]
  clear hW hW0
  go_wp2_with fail
  refine HC.out.mono ?_
  rintro e w1 ⟨rfl, hb1⟩
  have HB1 := Lib.hid (bel_then HB.out hb1)
  go_wp2_with fail
  go_ret2
  exact ⟨rfl, HB1.out⟩
/-- may says yes -/
theorem Fl.mayV_ok {tb : List Idx.Cell} {n : Nat} {now : Int} {many : Nat} {f : Fl.F} (h : Fl.mayV tb n now many f = 0) : Idx.right f.th = true ∧ Idx.right f.bk = true ∧ f.th ≠ f.bk ∧ f.un ≤ 1099511627776 ∧ now < f.un ∧ (Idx.get tb f.th).2 = false ∧ (Idx.get tb f.bk).2 = false ∧ many ≠ n := by
  unfold Fl.mayV at h
  split at h
  · cases h
  · rename_i h1
    split at h
    · cases h
    · rename_i h2
      split at h
      · cases h
      · rename_i h3
        split at h
        · cases h
        · rename_i h4
          simp only [not_or] at h1 h3
          refine ⟨by simpa using h1.1, by simpa using h1.2.1, h1.2.2.1, by omega, by omega, by simpa using h3.1, by simpa using h3.2, h4⟩
set_option maxRecDepth 8000 in
set_option maxHeartbeats 16000000 in
theorem FMem.add_ok (h : FMem w X sl At ct tb c es ck l now (Fl.count sl)) (hI : Fl.Inv sl tb l now) (f : Fl.F) (hk1 : f.th.wf) (hk2 : f.bk.wf) (hv : Fl.mayV tb sl.length now (Fl.count sl) f = 0) {i : Nat} (hfr : Fl.Free sl i) :
    Calls Try.prog 7 #[.pointer (some ⟨X.gs, 0, none⟩), .agg #[.int .i64 f.th.pr, .int .u32 f.th.sr, .int .i64 f.th.sp, .int .u32 f.th.ds, .int .i64 f.th.dp, .int .i64 f.bk.pr, .int .u32 f.bk.sr, .int .i64 f.bk.sp, .int .u32 f.bk.ds, .int .i64 f.bk.dp, .int .i64 f.un, .int .i64 f.no]] w fun e w' => e = .returned (.tuple #[.int .i64 i, .int .i64 0]) ∧ Fgo w X (sl.set i (some f)) now w' := by
  obtain ⟨r1, r2, r3, r4, r5, r6, r7, r8⟩ := Fl.mayV_ok hv
  obtain ⟨hi, hs, hlow⟩ := hfr
  have no1 : ∀ n, ¬ Fl.Of sl f.th n := fun n ho => by rw [hI.get_of ho] at r6; cases r6
  have no2 : ∀ n, ¬ Fl.Of sl f.bk n := fun n ho => by rw [hI.get_of ho] at r7; cases r7
  obtain ⟨R1, R2, e1, e2, l1, l2, hI'⟩ := hI.add hi hs r1 r2 r3 r5 r4 no1 no2
  have hsm := h.sm
  have hsr : Wh.setR l now i f.un = (0, Wh.setL l i f.un) := by
    have hp := hI.noplace hs
    have hwl := hI.wlen
    have hcl := Fl.count_le sl
    have hn0 := hI.n0
    unfold Wh.setR
    rw [if_neg (by omega), if_neg (by omega), if_neg]
    rintro ⟨_, h6⟩
    exact r8 (by omega)
  have hcn : Fl.count (sl.set i (some f)) = Fl.count sl + 1 := by
    have h3 := Fl.count_set hi (some f)
    rw [hs] at h3
    simpa using h3
  obtain ⟨W, hW⟩ : ∃ W, W = w.alloc (.cells #[.int .i64 f.th.pr, .int .u32 f.th.sr, .int .i64 f.th.sp, .int .u32 f.th.ds, .int .i64 f.th.dp, .int .i64 f.bk.pr, .int .u32 f.bk.sr, .int .i64 f.bk.sp, .int .u32 f.bk.ds, .int .i64 f.bk.dp, .int .i64 f.un, .int .i64 f.no] 31) := ⟨_, rfl⟩
  have hbW : Below w.heap.size w W := by rw [hW]; exact bel_a (Below.refl _ _) _
  obtain ⟨W0, hW0⟩ : ∃ W0, W0 = w.heap.size := ⟨_, rfl⟩
  have hN : BlkV W W0 31 [.int .i64 f.th.pr, .int .u32 f.th.sr, .int .i64 f.th.sp, .int .u32 f.th.ds, .int .i64 f.th.dp, .int .i64 f.bk.pr, .int .u32 f.bk.sr, .int .i64 f.bk.sp, .int .u32 f.bk.ds, .int .i64 f.bk.dp, .int .i64 f.un, .int .i64 f.no] := by rw [hW, hW0]; exact BlkV.new _ _ _
  obtain ⟨f0, f1, f2, f3, f4, f5, f6, f7, f8, f9, f10, f11⟩ := hN.flow
  have hM := h.below hbW
  have hC := hM.may f hk1 hk2
  rw [hv] at hC
  have HC := Lib.hid hC
  have HM := Lib.hid hM
  have HN := Lib.hid hN
  have HS0 := Lib.hid (FStep.of_below X hbW)
  have HSR := Lib.hid hsr
  have HE1 := Lib.hid e1
  have HE2 := Lib.hid e2
  have HI' := Lib.hid hI'
  have HLow := Lib.hid hlow
  have HSl := Lib.hid hs
  have HCn := Lib.hid hcn
  have HK := Lib.hid (And.intro hk1 hk2)
  have hcl := Fl.count_le sl
  obtain ⟨cnt, hcnt⟩ : ∃ cnt, cnt = Fl.count sl := ⟨_, rfl⟩
  rw [← hcnt] at HM HCn hcl
  have hiz : (i : Int) < (sl.length : Int) := by omega
  clear h hbW hN hM hC hv r1 r2 r3 r4 r5 r6 r7 r8 hI no1 no2 e1 e2 hI' hsr hs hlow hcn hk1 hk2 l1 l2 hcnt
  go_enter Try.func7, Try.ntmps7
  go_upto_region 3 with (fail)
  rw [← hW, ← hW0]
  clear hW hW0
  go_wp2_with fail
  refine HC.out.mono ?_
  rintro e w1 ⟨rfl, hb1⟩
  have HM1 := Lib.hid (HM.out.below hb1)
  have HN1 := Lib.hid (HN.out.below hb1)
  have HS1 := Lib.hid (HS0.out.trans (FStep.of_below X hb1))
  clear f0 f1 f2 f3 f4 f5 f6 f7 f8 f9 f10 f11 hb1 HM HN HC HS0
  obtain ⟨c0, c1, c2, c3⟩ := HM1.out.cells
  go_wp2_with fail
  go_loopg [7] (i + 1) (fun gg s7 wx => ∃ j : Nat, j ≤ i ∧ i - j < gg ∧ s7 = .int .i64 j ∧ wx = w1)
  case atStart => exact ⟨0, by omega, by omega, rfl, rfl⟩
  case round =>
    obtain ⟨j, hj, hg, rfl, rfl⟩ := hrel
    have hjz : (j : Int) < (sl.length : Int) := by omega
    have x0 : wr.cell? ⟨X.gl, j * 13, none⟩ = some (.bool (Fl.slot sl j).isSome) := HM1.out.slot (by omega) (i := 0) rfl
    by_cases hji : j < i
    · obtain ⟨g, hg2⟩ := HLow.out j hji
      rw [hg2] at x0
      have x0' : wr.cell? ⟨X.gl, j * 13, none⟩ = some (.bool true) := x0
      clear hg2 x0
      go_wp2_with fail
      go_roundg (gk - 1)
      case measure => omega
      case rel => exact ⟨j + 1, by omega, by omega, by go_num, rfl⟩
    · obtain rfl : i = j := by omega
      rw [HSl.out] at x0
      have x0' : wr.cell? ⟨X.gl, i * 13, none⟩ = some (.bool false) := x0
      clear x0 hji
      go_wp2_with fail
      clear x0'
      have KS : Hid (∀ w' : World, Below wr.heap.size wr w' → w'.cell? ⟨X.gs, 0, none⟩ = some (.slice (some ⟨X.gl, 0, none⟩) sl.length sl.length) ∧ w'.cell? ⟨W0, 0, none⟩ = some (.int .i64 f.th.pr) ∧ w'.cell? ⟨W0, 1, none⟩ = some (.int .u32 f.th.sr) ∧ w'.cell? ⟨W0, 2, none⟩ = some (.int .i64 f.th.sp) ∧ w'.cell? ⟨W0, 3, none⟩ = some (.int .u32 f.th.ds) ∧ w'.cell? ⟨W0, 4, none⟩ = some (.int .i64 f.th.dp) ∧ w'.cell? ⟨W0, 5, none⟩ = some (.int .i64 f.bk.pr) ∧ w'.cell? ⟨W0, 6, none⟩ = some (.int .u32 f.bk.sr) ∧ w'.cell? ⟨W0, 7, none⟩ = some (.int .i64 f.bk.sp) ∧ w'.cell? ⟨W0, 8, none⟩ = some (.int .u32 f.bk.ds) ∧ w'.cell? ⟨W0, 9, none⟩ = some (.int .i64 f.bk.dp) ∧ w'.cell? ⟨W0, 10, none⟩ = some (.int .i64 f.un) ∧ w'.cell? ⟨W0, 11, none⟩ = some (.int .i64 f.no)) := Lib.hid fun w' hb => ⟨(HM1.out.below hb).cells.1, (HN1.out.below hb).flow⟩
      refine wp_region_held_drew (S := fun w' => w'.cell? ⟨X.gs, 0, none⟩ = some (.slice (some ⟨X.gl, 0, none⟩) sl.length sl.length) ∧ w'.cell? ⟨W0, 0, none⟩ = some (.int .i64 f.th.pr) ∧ w'.cell? ⟨W0, 1, none⟩ = some (.int .u32 f.th.sr) ∧ w'.cell? ⟨W0, 2, none⟩ = some (.int .i64 f.th.sp) ∧ w'.cell? ⟨W0, 3, none⟩ = some (.int .u32 f.th.ds) ∧ w'.cell? ⟨W0, 4, none⟩ = some (.int .i64 f.th.dp) ∧ w'.cell? ⟨W0, 5, none⟩ = some (.int .i64 f.bk.pr) ∧ w'.cell? ⟨W0, 6, none⟩ = some (.int .u32 f.bk.sr) ∧ w'.cell? ⟨W0, 7, none⟩ = some (.int .i64 f.bk.sp) ∧ w'.cell? ⟨W0, 8, none⟩ = some (.int .u32 f.bk.ds) ∧ w'.cell? ⟨W0, 9, none⟩ = some (.int .i64 f.bk.dp) ∧ w'.cell? ⟨W0, 10, none⟩ = some (.int .i64 f.un) ∧ w'.cell? ⟨W0, 11, none⟩ = some (.int .i64 f.no)) (by kernel_rfl) (KS.out _ (bel_d (Below.refl _ wr))) (fun hHeld => ?_)
      clear c0 c1 c2 c3
      refine wpAnyH_takeD (i := 0) (some 26) (v := ?_) rfl rfl (by kernel_rfl) (by kernel_rfl) (by kernel_rfl) (fun _ _ _ h => h) (Or.inl ⟨by rfl, ?_⟩) (by assumption) ?_
      rotate_left
      · (intro w hSw; (try dsimp only at hSw); go_simp; try with_reducible rfl)
      try simp only [Act.put, List.setIfInBounds_toArray, List.set_cons_zero, List.set_cons_succ]
      refine wpAnyH_takeD (i := 1) (some 27) (v := ?_) rfl rfl (by kernel_rfl) (by kernel_rfl) (by kernel_rfl) (fun _ _ _ h => h) (Or.inl ⟨by rfl, ?_⟩) (by assumption) ?_
      rotate_left
      · (intro w hSw; (try dsimp only at hSw); go_simp; try with_reducible rfl)
      try simp only [Act.put, List.setIfInBounds_toArray, List.set_cons_zero, List.set_cons_succ]
      refine wpAnyH_takeD (i := 2) (some 28) (v := ?_) rfl rfl (by kernel_rfl) (by kernel_rfl) (by kernel_rfl) (fun _ _ _ h => h) (Or.inl ⟨by rfl, ?_⟩) (by assumption) ?_
      rotate_left
      · (intro w hSw; (try dsimp only at hSw); go_simp; try with_reducible rfl)
      try simp only [Act.put, List.setIfInBounds_toArray, List.set_cons_zero, List.set_cons_succ]
      refine wpAnyH_takeD (i := 3) (some 29) (v := ?_) rfl rfl (by kernel_rfl) (by kernel_rfl) (by kernel_rfl) (fun _ _ _ h => h) (Or.inl ⟨by rfl, ?_⟩) (by assumption) ?_
      rotate_left
      · (intro w hSw; (try dsimp only at hSw); go_simp; try with_reducible rfl)
      try simp only [Act.put, List.setIfInBounds_toArray, List.set_cons_zero, List.set_cons_succ]
      refine wpAnyH_takeD (i := 4) (some 30) (v := ?_) rfl rfl (by kernel_rfl) (by kernel_rfl) (by kernel_rfl) (fun _ _ _ h => h) (Or.inl ⟨by rfl, ?_⟩) (by assumption) ?_
      rotate_left
      · (intro w hSw; (try dsimp only at hSw); go_simp; try with_reducible rfl)
      try simp only [Act.put, List.setIfInBounds_toArray, List.set_cons_zero, List.set_cons_succ]
      refine wpAnyH_takeD (i := 5) (some 31) (v := ?_) rfl rfl (by kernel_rfl) (by kernel_rfl) (by kernel_rfl) (fun _ _ _ h => h) (Or.inl ⟨by rfl, ?_⟩) (by assumption) ?_
      rotate_left
      · (intro w hSw; (try dsimp only at hSw); go_simp; try with_reducible rfl)
      try simp only [Act.put, List.setIfInBounds_toArray, List.set_cons_zero, List.set_cons_succ]
      refine wpAnyH_takeD (i := 6) (some 32) (v := ?_) rfl rfl (by kernel_rfl) (by kernel_rfl) (by kernel_rfl) (fun _ _ _ h => h) (Or.inl ⟨by rfl, ?_⟩) (by assumption) ?_
      rotate_left
      · (intro w hSw; (try dsimp only at hSw); go_simp; try with_reducible rfl)
      try simp only [Act.put, List.setIfInBounds_toArray, List.set_cons_zero, List.set_cons_succ]
      refine wpAnyH_takeD (i := 7) (some 33) (v := ?_) rfl rfl (by kernel_rfl) (by kernel_rfl) (by kernel_rfl) (fun _ _ _ h => h) (Or.inl ⟨by rfl, ?_⟩) (by assumption) ?_
      rotate_left
      · (intro w hSw; (try dsimp only at hSw); go_simp; try with_reducible rfl)
      try simp only [Act.put, List.setIfInBounds_toArray, List.set_cons_zero, List.set_cons_succ]
      have hb0 : Below wr.heap.size wr wr.drew := bel_d (Below.refl _ wr)
      refine wpAnyH_ready (rs := [8]) (by kernel_rfl) (by simp) ?_
      refine AllReadyH.cons (o := _) rfl (fun K hK => ?_) AllReadyH.nil
      rw [if_pos (by rfl)]
      refine (HM1.out.below hb0).wp_put hi (some f) (fun g hg => by injection hg with hg; subst hg; exact HK.out) 62 _ _ rfl (by rfl) (by rfl) (by rfl) (by kernel_rfl) ?_
      intro w2 hM2 hO2
      obtain ⟨n1, n2, n3⟩ := HM1.out.at_lt HN1.out (by decide) (by decide) (by decide) (by decide)
      have hN2 : BlkV w2 W0 31 [.int .i64 f.th.pr, .int .u32 f.th.sr, .int .i64 f.th.sp, .int .u32 f.th.ds, .int .i64 f.th.dp, .int .i64 f.bk.pr, .int .u32 f.bk.sr, .int .i64 f.bk.sp, .int .u32 f.bk.ds, .int .i64 f.bk.dp, .int .i64 f.un, .int .i64 f.no] := BlkV.only (HN1.out.below hb0) hO2 n2
      have HM2 := Lib.hid hM2
      have HN2 := Lib.hid hN2
      have HNE := Lib.hid (And.intro n1 (And.intro n2 n3))
      have HS2 := Lib.hid ((HS1.out.trans (FStep.of_below X hb0)).trans (FStep.of_only X hO2 (Or.inr (Or.inl rfl))))
      refine hK.out _ _ ⟨by have := hM2.cells.1; rw [List.length_set] at this; exact this, hN2.flow⟩ (fun hHeld => ?_)
      clear hK K
      try simp only [Act.put, List.setIfInBounds_toArray, List.set_cons_zero, List.set_cons_succ]
      clear hM2 hO2 hN2 n1 n2 n3 hb0
      refine wpAnyH_done (by kernel_rfl) ?_ _
      clear hHeld KS HM1 HN1 HS1 HLow HSl
      go_wp2_with fail
      -- the table takes There
      have hw1 : IntKind.i64.wrap (2 * (i : Int)) = 2 * (i : Int) := IntWalk.i64_in _ (by omega)
      have hw2 : IntKind.i64.wrap (2 * (i : Int) + 1) = 2 * (i : Int) + 1 := IntWalk.i64_in _ (by omega)
      have KS : Hid (∀ w' : World, Below w2.heap.size w2 w' → w'.cell? ⟨X.gs, 1, none⟩ = some (.slice At 1024 ct) ∧ w'.cell? ⟨W0, 0, none⟩ = some (.int .i64 f.th.pr) ∧ w'.cell? ⟨W0, 1, none⟩ = some (.int .u32 f.th.sr) ∧ w'.cell? ⟨W0, 2, none⟩ = some (.int .i64 f.th.sp) ∧ w'.cell? ⟨W0, 3, none⟩ = some (.int .u32 f.th.ds) ∧ w'.cell? ⟨W0, 4, none⟩ = some (.int .i64 f.th.dp) ∧ w'.cell? ⟨W0, 5, none⟩ = some (.int .i64 f.bk.pr) ∧ w'.cell? ⟨W0, 6, none⟩ = some (.int .u32 f.bk.sr) ∧ w'.cell? ⟨W0, 7, none⟩ = some (.int .i64 f.bk.sp) ∧ w'.cell? ⟨W0, 8, none⟩ = some (.int .u32 f.bk.ds) ∧ w'.cell? ⟨W0, 9, none⟩ = some (.int .i64 f.bk.dp) ∧ w'.cell? ⟨W0, 10, none⟩ = some (.int .i64 f.un) ∧ w'.cell? ⟨W0, 11, none⟩ = some (.int .i64 f.no)) := Lib.hid fun w' hb => ⟨(HM2.out.below hb).cells.2.1, (HN2.out.below hb).flow⟩
      have hP := put_spec2 At 1024 ct tb f.th (2 * i) w2.drew ((HM2.out.below (bel_d (Below.refl _ w2))).tab) HK.out.1 (by omega)
      rw [HE1.out] at hP
      have HP := Lib.hid hP
      clear hP
      refine wp_region_X (S := fun w' => w'.cell? ⟨X.gs, 1, none⟩ = some (.slice At 1024 ct) ∧ w'.cell? ⟨W0, 0, none⟩ = some (.int .i64 f.th.pr) ∧ w'.cell? ⟨W0, 1, none⟩ = some (.int .u32 f.th.sr) ∧ w'.cell? ⟨W0, 2, none⟩ = some (.int .i64 f.th.sp) ∧ w'.cell? ⟨W0, 3, none⟩ = some (.int .u32 f.th.ds) ∧ w'.cell? ⟨W0, 4, none⟩ = some (.int .i64 f.th.dp) ∧ w'.cell? ⟨W0, 5, none⟩ = some (.int .i64 f.bk.pr) ∧ w'.cell? ⟨W0, 6, none⟩ = some (.int .u32 f.bk.sr) ∧ w'.cell? ⟨W0, 7, none⟩ = some (.int .i64 f.bk.sp) ∧ w'.cell? ⟨W0, 8, none⟩ = some (.int .u32 f.bk.ds) ∧ w'.cell? ⟨W0, 9, none⟩ = some (.int .i64 f.bk.dp) ∧ w'.cell? ⟨W0, 10, none⟩ = some (.int .i64 f.un) ∧ w'.cell? ⟨W0, 11, none⟩ = some (.int .i64 f.no)) 15 (by kernel_rfl) (KS.out _ (bel_d (Below.refl _ w2))) (fun hHeld => ?_)
      refine wpAnyX_takeD (i := 0) (some 35) (v := ?_) rfl rfl (by kernel_rfl) (by kernel_rfl) (by kernel_rfl) (by kernel_rfl) (fun _ _ _ h => h) (Or.inl ⟨by rfl, ?_⟩) (by assumption) ?_
      rotate_left
      · (intro w hSw; (try dsimp only at hSw); go_simp; try with_reducible rfl)
      try simp only [Act.put, List.setIfInBounds_toArray, List.set_cons_zero, List.set_cons_succ]
      refine wpAnyX_takeD (i := 1) (some 36) (v := ?_) rfl rfl (by kernel_rfl) (by kernel_rfl) (by kernel_rfl) (by kernel_rfl) (fun _ _ _ h => h) (Or.inl ⟨by rfl, ?_⟩) (by assumption) ?_
      rotate_left
      · (intro w hSw; (try dsimp only at hSw); go_simp; try with_reducible rfl)
      try simp only [Act.put, List.setIfInBounds_toArray, List.set_cons_zero, List.set_cons_succ]
      refine wpAnyX_takeD (i := 2) (some 37) (v := ?_) rfl rfl (by kernel_rfl) (by kernel_rfl) (by kernel_rfl) (by kernel_rfl) (fun _ _ _ h => h) (Or.inl ⟨by rfl, ?_⟩) (by assumption) ?_
      rotate_left
      · (intro w hSw; (try dsimp only at hSw); go_simp; try with_reducible rfl)
      try simp only [Act.put, List.setIfInBounds_toArray, List.set_cons_zero, List.set_cons_succ]
      refine wpAnyX_takeD (i := 3) (some 38) (v := ?_) rfl rfl (by kernel_rfl) (by kernel_rfl) (by kernel_rfl) (by kernel_rfl) (fun _ _ _ h => h) (Or.inl ⟨by rfl, ?_⟩) (by assumption) ?_
      rotate_left
      · (intro w hSw; (try dsimp only at hSw); go_simp; try with_reducible rfl)
      try simp only [Act.put, List.setIfInBounds_toArray, List.set_cons_zero, List.set_cons_succ]
      refine wpAnyX_takeD (i := 4) (some 39) (v := ?_) rfl rfl (by kernel_rfl) (by kernel_rfl) (by kernel_rfl) (by kernel_rfl) (fun _ _ _ h => h) (Or.inl ⟨by rfl, ?_⟩) (by assumption) ?_
      rotate_left
      · (intro w hSw; (try dsimp only at hSw); go_simp; try with_reducible rfl)
      try simp only [Act.put, List.setIfInBounds_toArray, List.set_cons_zero, List.set_cons_succ]
      refine wpAnyX_takeD (i := 5) (some 40) (v := ?_) rfl rfl (by kernel_rfl) (by kernel_rfl) (by kernel_rfl) (by kernel_rfl) (fun _ _ _ h => h) (Or.inl ⟨by rfl, ?_⟩) (by assumption) ?_
      rotate_left
      · (intro w hSw; (try dsimp only at hSw); go_simp; try with_reducible rfl)
      try simp only [Act.put, List.setIfInBounds_toArray, List.set_cons_zero, List.set_cons_succ]
      refine wpAnyX_takeD (i := 6) (some 41) (v := ?_) rfl rfl (by kernel_rfl) (by kernel_rfl) (by kernel_rfl) (by kernel_rfl) (fun _ _ _ h => h) (Or.inl ⟨by rfl, ?_⟩) (by assumption) ?_
      rotate_left
      · (intro w hSw; (try dsimp only at hSw); go_simp; try with_reducible rfl)
      try simp only [Act.put, List.setIfInBounds_toArray, List.set_cons_zero, List.set_cons_succ]
      refine wpAnyX_takeD (i := 7) (some 42) (v := ?_) rfl rfl (by kernel_rfl) (by kernel_rfl) (by kernel_rfl) (by kernel_rfl) (fun _ _ _ h => h) (Or.inl ⟨by rfl, ?_⟩) (by assumption) ?_
      rotate_left
      · (intro w hSw; (try dsimp only at hSw); go_simp; try with_reducible rfl)
      try simp only [Act.put, List.setIfInBounds_toArray, List.set_cons_zero, List.set_cons_succ]
      refine wpAnyX_takeD (i := 8) (some 43) (v := ?_) rfl rfl (by kernel_rfl) (by kernel_rfl) (by kernel_rfl) (by kernel_rfl) (fun _ _ _ h => h) (Or.inl ⟨by rfl, ?_⟩) (by assumption) ?_
      rotate_left
      · (intro w hSw; (try dsimp only at hSw); go_simp; try with_reducible rfl)
      try simp only [Act.put, List.setIfInBounds_toArray, List.set_cons_zero, List.set_cons_succ]
      refine wpAnyX_ready (rs := [9]) (by kernel_rfl) (by simp) ?_
      refine AllReadyX.cons (o := _) rfl (fun K hK => ?_) AllReadyX.nil
      go_simp
      refine HP.out.mono ?_
      rintro e w3 ⟨A3, c3, rfl, hT3, hb3, hfar3⟩
      have hb3' := bel_then (bel_d (Below.refl _ w2)) hb3
      go_simp
      refine hK.out _ _ (KS.out _ hb3') (fun hHeld => ?_)
      clear hK K
      try simp only [Act.put, List.setIfInBounds_toArray, List.set_cons_zero, List.set_cons_succ]
      refine wpAnyX_takeD (i := 10) (some 34) (v := ?_) rfl rfl (by kernel_rfl) (by kernel_rfl) (by kernel_rfl) (by kernel_rfl) (fun _ _ _ h => h) (Or.inl ⟨by rfl, ?_⟩) (by assumption) ?_
      rotate_left
      · (intro w hSw; (try dsimp only at hSw); go_simp; try with_reducible rfl)
      try simp only [Act.put, List.setIfInBounds_toArray, List.set_cons_zero, List.set_cons_succ]
      refine wpAnyX_takeD (i := 11) (some 45) (v := ?_) rfl rfl (by kernel_rfl) (by kernel_rfl) (by kernel_rfl) (by kernel_rfl) (fun _ _ _ h => h) (Or.inl ⟨by rfl, ?_⟩) (by assumption) ?_
      rotate_left
      · (intro w hSw; (try dsimp only at hSw); go_simp; try with_reducible rfl)
      try simp only [Act.put, List.setIfInBounds_toArray, List.set_cons_zero, List.set_cons_succ]
      refine wpAnyX_takeP (i := 12) (some 46) (v := ?_) rfl rfl (by kernel_rfl) (by kernel_rfl) (by kernel_rfl) (by kernel_rfl) (fun _ _ _ h => h) (Or.inl ⟨by rfl, ?_⟩) (fun _ => by assumption) ?_
      rotate_left
      · (intro w hSw; (try dsimp only at hSw); go_simp; try with_reducible rfl)
      try simp only [Act.put, List.setIfInBounds_toArray, List.set_cons_zero, List.set_cons_succ]
      refine wpAnyX_takeD (i := 13) (some 47) (v := ?_) rfl rfl (by kernel_rfl) (by kernel_rfl) (by kernel_rfl) (by kernel_rfl) (fun _ _ _ h => h) (Or.inl ⟨by rfl, ?_⟩) (by assumption) ?_
      rotate_left
      · (intro w hSw; (try dsimp only at hSw); go_simp; try with_reducible rfl)
      try simp only [Act.put, List.setIfInBounds_toArray, List.set_cons_zero, List.set_cons_succ]
      refine wpAnyX_takeD (i := 14) (some 48) (v := ?_) rfl rfl (by kernel_rfl) (by kernel_rfl) (by kernel_rfl) (by kernel_rfl) (fun _ _ _ h => h) (Or.inl ⟨by rfl, ?_⟩) (by assumption) ?_
      rotate_left
      · (intro w hSw; (try dsimp only at hSw); go_simp; try with_reducible rfl)
      try simp only [Act.put, List.setIfInBounds_toArray, List.set_cons_zero, List.set_cons_succ]
      have M3 := HM2.out.below hb3'
      have N3 := HN2.out.below hb3'
      have B3 := M3.box
      refine wpAnyX_ready (rs := [15]) (by kernel_rfl) (by simp) ?_
      refine AllReadyX.last (o := _) rfl (by kernel_rfl) (fun K hK => ?_)
      rw [if_pos (by rfl)]
      refine wp_stF 52 _ _ 1 (.slice A3 1024 c3) rfl (by rfl) (by rfl) (by rfl) B3 (by simp) (by kernel_rfl) rfl ?_
      intro w4 B4 O4
      have HM4 := Lib.hid (M3.setbox (At' := A3) (ct' := c3) (tb' := R1) (many' := cnt) O4 B4 hT3 (fun a ha => (hfar3 a ha).2))
      have HN4 := Lib.hid (N3.only O4 HNE.out.1)
      have HS4 := Lib.hid ((HS2.out.trans (FStep.of_below X hb3')).trans (FStep.of_only X O4 (Or.inl rfl)))
      refine hK.out _ _ ?_
      clear hK K
      try simp only [Act.put, List.setIfInBounds_toArray, List.set_cons_zero, List.set_cons_succ]
      refine wpAnyX_done (by kernel_rfl) ?_ _
      clear hHeld KS HM2 HN2 HS2 HP hT3 hb3 hb3' hfar3 M3 N3 B3 B4 O4 HE1
      go_wp2_with fail
      -- the table takes Back
      have KS : Hid (∀ w' : World, Below w4.heap.size w4 w' → w'.cell? ⟨X.gs, 1, none⟩ = some (.slice A3 1024 c3) ∧ w'.cell? ⟨W0, 0, none⟩ = some (.int .i64 f.th.pr) ∧ w'.cell? ⟨W0, 1, none⟩ = some (.int .u32 f.th.sr) ∧ w'.cell? ⟨W0, 2, none⟩ = some (.int .i64 f.th.sp) ∧ w'.cell? ⟨W0, 3, none⟩ = some (.int .u32 f.th.ds) ∧ w'.cell? ⟨W0, 4, none⟩ = some (.int .i64 f.th.dp) ∧ w'.cell? ⟨W0, 5, none⟩ = some (.int .i64 f.bk.pr) ∧ w'.cell? ⟨W0, 6, none⟩ = some (.int .u32 f.bk.sr) ∧ w'.cell? ⟨W0, 7, none⟩ = some (.int .i64 f.bk.sp) ∧ w'.cell? ⟨W0, 8, none⟩ = some (.int .u32 f.bk.ds) ∧ w'.cell? ⟨W0, 9, none⟩ = some (.int .i64 f.bk.dp) ∧ w'.cell? ⟨W0, 10, none⟩ = some (.int .i64 f.un) ∧ w'.cell? ⟨W0, 11, none⟩ = some (.int .i64 f.no)) := Lib.hid fun w' hb => ⟨(HM4.out.below hb).cells.2.1, (HN4.out.below hb).flow⟩
      have hP := put_spec2 A3 1024 c3 R1 f.bk (2 * i + 1) w4.drew ((HM4.out.below (bel_d (Below.refl _ w4))).tab) HK.out.2 (by omega)
      rw [HE2.out] at hP
      have HP := Lib.hid hP
      clear hP
      refine wp_region_X (S := fun w' => w'.cell? ⟨X.gs, 1, none⟩ = some (.slice A3 1024 c3) ∧ w'.cell? ⟨W0, 0, none⟩ = some (.int .i64 f.th.pr) ∧ w'.cell? ⟨W0, 1, none⟩ = some (.int .u32 f.th.sr) ∧ w'.cell? ⟨W0, 2, none⟩ = some (.int .i64 f.th.sp) ∧ w'.cell? ⟨W0, 3, none⟩ = some (.int .u32 f.th.ds) ∧ w'.cell? ⟨W0, 4, none⟩ = some (.int .i64 f.th.dp) ∧ w'.cell? ⟨W0, 5, none⟩ = some (.int .i64 f.bk.pr) ∧ w'.cell? ⟨W0, 6, none⟩ = some (.int .u32 f.bk.sr) ∧ w'.cell? ⟨W0, 7, none⟩ = some (.int .i64 f.bk.sp) ∧ w'.cell? ⟨W0, 8, none⟩ = some (.int .u32 f.bk.ds) ∧ w'.cell? ⟨W0, 9, none⟩ = some (.int .i64 f.bk.dp) ∧ w'.cell? ⟨W0, 10, none⟩ = some (.int .i64 f.un) ∧ w'.cell? ⟨W0, 11, none⟩ = some (.int .i64 f.no)) 16 (by kernel_rfl) (KS.out _ (bel_d (Below.refl _ w4))) (fun hHeld => ?_)
      refine wpAnyX_takeD (i := 0) (some 50) (v := ?_) rfl rfl (by kernel_rfl) (by kernel_rfl) (by kernel_rfl) (by kernel_rfl) (fun _ _ _ h => h) (Or.inl ⟨by rfl, ?_⟩) (by assumption) ?_
      rotate_left
      · (intro w hSw; (try dsimp only at hSw); go_simp; try with_reducible rfl)
      try simp only [Act.put, List.setIfInBounds_toArray, List.set_cons_zero, List.set_cons_succ]
      refine wpAnyX_takeD (i := 1) (some 51) (v := ?_) rfl rfl (by kernel_rfl) (by kernel_rfl) (by kernel_rfl) (by kernel_rfl) (fun _ _ _ h => h) (Or.inl ⟨by rfl, ?_⟩) (by assumption) ?_
      rotate_left
      · (intro w hSw; (try dsimp only at hSw); go_simp; try with_reducible rfl)
      try simp only [Act.put, List.setIfInBounds_toArray, List.set_cons_zero, List.set_cons_succ]
      refine wpAnyX_takeD (i := 2) (some 52) (v := ?_) rfl rfl (by kernel_rfl) (by kernel_rfl) (by kernel_rfl) (by kernel_rfl) (fun _ _ _ h => h) (Or.inl ⟨by rfl, ?_⟩) (by assumption) ?_
      rotate_left
      · (intro w hSw; (try dsimp only at hSw); go_simp; try with_reducible rfl)
      try simp only [Act.put, List.setIfInBounds_toArray, List.set_cons_zero, List.set_cons_succ]
      refine wpAnyX_takeD (i := 3) (some 53) (v := ?_) rfl rfl (by kernel_rfl) (by kernel_rfl) (by kernel_rfl) (by kernel_rfl) (fun _ _ _ h => h) (Or.inl ⟨by rfl, ?_⟩) (by assumption) ?_
      rotate_left
      · (intro w hSw; (try dsimp only at hSw); go_simp; try with_reducible rfl)
      try simp only [Act.put, List.setIfInBounds_toArray, List.set_cons_zero, List.set_cons_succ]
      refine wpAnyX_takeD (i := 4) (some 54) (v := ?_) rfl rfl (by kernel_rfl) (by kernel_rfl) (by kernel_rfl) (by kernel_rfl) (fun _ _ _ h => h) (Or.inl ⟨by rfl, ?_⟩) (by assumption) ?_
      rotate_left
      · (intro w hSw; (try dsimp only at hSw); go_simp; try with_reducible rfl)
      try simp only [Act.put, List.setIfInBounds_toArray, List.set_cons_zero, List.set_cons_succ]
      refine wpAnyX_takeD (i := 5) (some 55) (v := ?_) rfl rfl (by kernel_rfl) (by kernel_rfl) (by kernel_rfl) (by kernel_rfl) (fun _ _ _ h => h) (Or.inl ⟨by rfl, ?_⟩) (by assumption) ?_
      rotate_left
      · (intro w hSw; (try dsimp only at hSw); go_simp; try with_reducible rfl)
      try simp only [Act.put, List.setIfInBounds_toArray, List.set_cons_zero, List.set_cons_succ]
      refine wpAnyX_takeD (i := 6) (some 56) (v := ?_) rfl rfl (by kernel_rfl) (by kernel_rfl) (by kernel_rfl) (by kernel_rfl) (fun _ _ _ h => h) (Or.inl ⟨by rfl, ?_⟩) (by assumption) ?_
      rotate_left
      · (intro w hSw; (try dsimp only at hSw); go_simp; try with_reducible rfl)
      try simp only [Act.put, List.setIfInBounds_toArray, List.set_cons_zero, List.set_cons_succ]
      refine wpAnyX_takeD (i := 7) (some 57) (v := ?_) rfl rfl (by kernel_rfl) (by kernel_rfl) (by kernel_rfl) (by kernel_rfl) (fun _ _ _ h => h) (Or.inl ⟨by rfl, ?_⟩) (by assumption) ?_
      rotate_left
      · (intro w hSw; (try dsimp only at hSw); go_simp; try with_reducible rfl)
      try simp only [Act.put, List.setIfInBounds_toArray, List.set_cons_zero, List.set_cons_succ]
      refine wpAnyX_takeD (i := 8) (some 58) (v := ?_) rfl rfl (by kernel_rfl) (by kernel_rfl) (by kernel_rfl) (by kernel_rfl) (fun _ _ _ h => h) (Or.inl ⟨by rfl, ?_⟩) (by assumption) ?_
      rotate_left
      · (intro w hSw; (try dsimp only at hSw); go_simp; try with_reducible rfl)
      try simp only [Act.put, List.setIfInBounds_toArray, List.set_cons_zero, List.set_cons_succ]
      refine wpAnyX_takeD (i := 9) (some 59) (v := ?_) rfl rfl (by kernel_rfl) (by kernel_rfl) (by kernel_rfl) (by kernel_rfl) (fun _ _ _ h => h) (Or.inl ⟨by rfl, ?_⟩) (by assumption) ?_
      rotate_left
      · (intro w hSw; (try dsimp only at hSw); go_simp; try with_reducible rfl)
      try simp only [Act.put, List.setIfInBounds_toArray, List.set_cons_zero, List.set_cons_succ]
      refine wpAnyX_ready (rs := [10]) (by kernel_rfl) (by simp) ?_
      refine AllReadyX.cons (o := _) rfl (fun K hK => ?_) AllReadyX.nil
      go_simp
      refine HP.out.mono ?_
      rintro e w5 ⟨A5, c5, rfl, hT5, hb5, hfar5⟩
      have hb5' := bel_then (bel_d (Below.refl _ w4)) hb5
      go_simp
      refine hK.out _ _ (KS.out _ hb5') (fun hHeld => ?_)
      clear hK K
      try simp only [Act.put, List.setIfInBounds_toArray, List.set_cons_zero, List.set_cons_succ]
      refine wpAnyX_takeD (i := 11) (some 49) (v := ?_) rfl rfl (by kernel_rfl) (by kernel_rfl) (by kernel_rfl) (by kernel_rfl) (fun _ _ _ h => h) (Or.inl ⟨by rfl, ?_⟩) (by assumption) ?_
      rotate_left
      · (intro w hSw; (try dsimp only at hSw); go_simp; try with_reducible rfl)
      try simp only [Act.put, List.setIfInBounds_toArray, List.set_cons_zero, List.set_cons_succ]
      refine wpAnyX_takeD (i := 12) (some 61) (v := ?_) rfl rfl (by kernel_rfl) (by kernel_rfl) (by kernel_rfl) (by kernel_rfl) (fun _ _ _ h => h) (Or.inl ⟨by rfl, ?_⟩) (by assumption) ?_
      rotate_left
      · (intro w hSw; (try dsimp only at hSw); go_simp; try with_reducible rfl)
      try simp only [Act.put, List.setIfInBounds_toArray, List.set_cons_zero, List.set_cons_succ]
      refine wpAnyX_takeP (i := 13) (some 62) (v := ?_) rfl rfl (by kernel_rfl) (by kernel_rfl) (by kernel_rfl) (by kernel_rfl) (fun _ _ _ h => h) (Or.inl ⟨by rfl, ?_⟩) (fun _ => by assumption) ?_
      rotate_left
      · (intro w hSw; (try dsimp only at hSw); go_simp; try with_reducible rfl)
      try simp only [Act.put, List.setIfInBounds_toArray, List.set_cons_zero, List.set_cons_succ]
      refine wpAnyX_takeD (i := 14) (some 63) (v := ?_) rfl rfl (by kernel_rfl) (by kernel_rfl) (by kernel_rfl) (by kernel_rfl) (fun _ _ _ h => h) (Or.inl ⟨by rfl, ?_⟩) (by assumption) ?_
      rotate_left
      · (intro w hSw; (try dsimp only at hSw); go_simp; try with_reducible rfl)
      try simp only [Act.put, List.setIfInBounds_toArray, List.set_cons_zero, List.set_cons_succ]
      refine wpAnyX_takeD (i := 15) (some 64) (v := ?_) rfl rfl (by kernel_rfl) (by kernel_rfl) (by kernel_rfl) (by kernel_rfl) (fun _ _ _ h => h) (Or.inl ⟨by rfl, ?_⟩) (by assumption) ?_
      rotate_left
      · (intro w hSw; (try dsimp only at hSw); go_simp; try with_reducible rfl)
      try simp only [Act.put, List.setIfInBounds_toArray, List.set_cons_zero, List.set_cons_succ]
      have M5 := HM4.out.below hb5'
      have N5 := HN4.out.below hb5'
      have B5 := M5.box
      refine wpAnyX_ready (rs := [16]) (by kernel_rfl) (by simp) ?_
      refine AllReadyX.last (o := _) rfl (by kernel_rfl) (fun K hK => ?_)
      rw [if_pos (by rfl)]
      refine wp_stF 52 _ _ 1 (.slice A5 1024 c5) rfl (by rfl) (by rfl) (by rfl) B5 (by simp) (by kernel_rfl) rfl ?_
      intro w6 B6 O6
      have HM6 := Lib.hid (M5.setbox (At' := A5) (ct' := c5) (tb' := R2) (many' := cnt) O6 B6 hT5 (fun a ha => (hfar5 a ha).2))
      have HN6 := Lib.hid (N5.only O6 HNE.out.1)
      have HS6 := Lib.hid ((HS4.out.trans (FStep.of_below X hb5')).trans (FStep.of_only X O6 (Or.inl rfl)))
      refine hK.out _ _ ?_
      clear hK K
      try simp only [Act.put, List.setIfInBounds_toArray, List.set_cons_zero, List.set_cons_succ]
      refine wpAnyX_done (by kernel_rfl) ?_ _
      clear hHeld KS HM4 HN4 HS4 HP hT5 hb5 hb5' hfar5 M5 N5 B5 B6 O6 HE2 hw1 hw2
      go_wp2_with fail
      -- the wheel takes the time
      have M7 := HM6.out.below (bel_d (Below.refl _ w6))
      have hP := M7.wh.set i f.un
      rw [HSR.out] at hP
      have HP := Lib.hid hP
      have HM7 := Lib.hid M7
      clear hP M7
      refine wp_region_X (S := fun w' => w'.cell? ⟨X.gs, 2, none⟩ = some (.pointer (some ⟨X.L.gw, 0, none⟩)) ∧ w'.cell? ⟨W0, 0, none⟩ = some (.int .i64 f.th.pr) ∧ w'.cell? ⟨W0, 1, none⟩ = some (.int .u32 f.th.sr) ∧ w'.cell? ⟨W0, 2, none⟩ = some (.int .i64 f.th.sp) ∧ w'.cell? ⟨W0, 3, none⟩ = some (.int .u32 f.th.ds) ∧ w'.cell? ⟨W0, 4, none⟩ = some (.int .i64 f.th.dp) ∧ w'.cell? ⟨W0, 5, none⟩ = some (.int .i64 f.bk.pr) ∧ w'.cell? ⟨W0, 6, none⟩ = some (.int .u32 f.bk.sr) ∧ w'.cell? ⟨W0, 7, none⟩ = some (.int .i64 f.bk.sp) ∧ w'.cell? ⟨W0, 8, none⟩ = some (.int .u32 f.bk.ds) ∧ w'.cell? ⟨W0, 9, none⟩ = some (.int .i64 f.bk.dp) ∧ w'.cell? ⟨W0, 10, none⟩ = some (.int .i64 f.un) ∧ w'.cell? ⟨W0, 11, none⟩ = some (.int .i64 f.no)) 7 (by kernel_rfl) ⟨HM7.out.cells.2.2.1, (HN6.out.below (bel_d (Below.refl _ w6))).flow⟩ (fun hHeld => ?_)
      refine wpAnyX_takeD (i := 0) (some 65) (v := ?_) rfl rfl (by kernel_rfl) (by kernel_rfl) (by kernel_rfl) (by kernel_rfl) (fun _ _ _ h => h) (Or.inl ⟨by rfl, ?_⟩) (by assumption) ?_
      rotate_left
      · (intro w hSw; (try dsimp only at hSw); go_simp; try with_reducible rfl)
      try simp only [Act.put, List.setIfInBounds_toArray, List.set_cons_zero, List.set_cons_succ]
      refine wpAnyX_takeD (i := 1) (some 66) (v := ?_) rfl rfl (by kernel_rfl) (by kernel_rfl) (by kernel_rfl) (by kernel_rfl) (fun _ _ _ h => h) (Or.inl ⟨by rfl, ?_⟩) (by assumption) ?_
      rotate_left
      · (intro w hSw; (try dsimp only at hSw); go_simp; try with_reducible rfl)
      try simp only [Act.put, List.setIfInBounds_toArray, List.set_cons_zero, List.set_cons_succ]
      refine wpAnyX_takeD (i := 2) (some 67) (v := ?_) rfl rfl (by kernel_rfl) (by kernel_rfl) (by kernel_rfl) (by kernel_rfl) (fun _ _ _ h => h) (Or.inl ⟨by rfl, ?_⟩) (by assumption) ?_
      rotate_left
      · (intro w hSw; (try dsimp only at hSw); go_simp; try with_reducible rfl)
      try simp only [Act.put, List.setIfInBounds_toArray, List.set_cons_zero, List.set_cons_succ]
      refine wpAnyX_takeD (i := 3) (some 68) (v := ?_) rfl rfl (by kernel_rfl) (by kernel_rfl) (by kernel_rfl) (by kernel_rfl) (fun _ _ _ h => h) (Or.inl ⟨by rfl, ?_⟩) (by assumption) ?_
      rotate_left
      · (intro w hSw; (try dsimp only at hSw); go_simp; try with_reducible rfl)
      try simp only [Act.put, List.setIfInBounds_toArray, List.set_cons_zero, List.set_cons_succ]
      refine wpAnyX_takeD (i := 4) (some 69) (v := ?_) rfl rfl (by kernel_rfl) (by kernel_rfl) (by kernel_rfl) (by kernel_rfl) (fun _ _ _ h => h) (Or.inl ⟨by rfl, ?_⟩) (by assumption) ?_
      rotate_left
      · (intro w hSw; (try dsimp only at hSw); go_simp; try with_reducible rfl)
      try simp only [Act.put, List.setIfInBounds_toArray, List.set_cons_zero, List.set_cons_succ]
      refine wpAnyX_takeD (i := 5) (some 70) (v := ?_) rfl rfl (by kernel_rfl) (by kernel_rfl) (by kernel_rfl) (by kernel_rfl) (fun _ _ _ h => h) (Or.inl ⟨by rfl, ?_⟩) (by assumption) ?_
      rotate_left
      · (intro w hSw; (try dsimp only at hSw); go_simp; try with_reducible rfl)
      try simp only [Act.put, List.setIfInBounds_toArray, List.set_cons_zero, List.set_cons_succ]
      refine wpAnyX_takeD (i := 6) (some 71) (v := ?_) rfl rfl (by kernel_rfl) (by kernel_rfl) (by kernel_rfl) (by kernel_rfl) (fun _ _ _ h => h) (Or.inl ⟨by rfl, ?_⟩) (by assumption) ?_
      rotate_left
      · (intro w hSw; (try dsimp only at hSw); go_simp; try with_reducible rfl)
      try simp only [Act.put, List.setIfInBounds_toArray, List.set_cons_zero, List.set_cons_succ]
      refine wpAnyX_ready (rs := [7]) (by kernel_rfl) (by simp) ?_
      refine AllReadyX.last (o := _) rfl (by kernel_rfl) (fun K hK => ?_)
      go_simp
      refine HP.out.mono ?_
      rintro e w8 ⟨rfl, hG⟩
      obtain ⟨L', c', es', ck', hM8, hS8⟩ := HM7.out.wheel hG
      have HM8 := Lib.hid hM8
      have HS8 := Lib.hid ((HS6.out.trans (FStep.of_below X (bel_d (Below.refl _ w6)))).trans hS8)
      go_simp
      refine hK.out _ _ ?_
      clear hK K
      try simp only [Act.put, List.setIfInBounds_toArray, List.set_cons_zero, List.set_cons_succ]
      refine wpAnyX_done (by kernel_rfl) ?_ _
      clear hHeld HM6 HN6 HS6 HP hG hM8 hS8 HM7
      obtain ⟨c0, c1, c2, c3⟩ := HM8.out.cells
      have B8 := HM8.out.box
      go_wp2_with (first | (refine wpList_stF 3 _ _ 3 (.int .i64 (cnt + 1)) rfl (by with_reducible rfl) rfl (by rfl) (by rfl) B8 (by simp) (by kernel_rfl) rfl ?_; intro w9 B9 O9) | fail)
      have HM9 := HM8.out.setbox (many' := cnt + 1) O9 B9 HM8.out.tab HM8.out.tty
      have hS9 := HS8.out.trans (FStep.of_only { X with L := L' } O9 (Or.inl rfl))
      go_ret2
      exact ⟨rfl, { X with L := L' }, ⟨_, _, _, _, _, _, _, by rw [HCn.out]; exact HM9, HI'.out⟩, hS9⟩
end
end Go.Proofs.Ytdboehogkmidbaa
