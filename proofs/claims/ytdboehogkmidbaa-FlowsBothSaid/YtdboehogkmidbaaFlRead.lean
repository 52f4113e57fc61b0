/- The walks of flows' functions that only read: there, known, Find, Get, Len. -/
import Derived.Test.YtdboehogkmidbaaFlMem
import Derived.Deep.RegionHeld3
namespace Go.Proofs.Ytdboehogkmidbaa
open Go.RowKit
set_option linter.unusedVariables false
set_option linter.unusedSimpArgs false
def Fl.thereB (sl : Fl.Sl) (num : Int) : Bool := decide (0 ≤ num) && (Fl.slot sl num.toNat).isSome
theorem Fl.thereB_neg {sl : Fl.Sl} {num : Int} (h : num < 0) : Fl.thereB sl num = false := by unfold Fl.thereB; simp; omega
theorem Fl.thereB_nat (sl : Fl.Sl) (i : Nat) : Fl.thereB sl i = (Fl.slot sl i).isSome := by unfold Fl.thereB; simp
theorem Fl.thereB_ge {sl : Fl.Sl} {i : Nat} (h : ¬ i < sl.length) : Fl.thereB sl i = false := by
  rw [Fl.thereB_nat]; unfold Fl.slot; rw [List.getElem?_eq_none (by omega)]; rfl
theorem Fl.thereB_some {sl : Fl.Sl} {num : Int} (h : Fl.thereB sl num = true) : ∃ (i : Nat) (f : Fl.F), num = i ∧ Fl.slot sl i = some f := by
  unfold Fl.thereB at h
  simp only [Bool.and_eq_true, decide_eq_true_eq] at h
  cases hs : Fl.slot sl num.toNat with
  | none => rw [hs] at h; cases h.2
  | some f => exact ⟨num.toNat, f, by omega, hs⟩
section
variable {w w' : World} {X : FLoc} {sl : Fl.Sl} {At : Option Addr} {ct : Nat} {tb : List Idx.Cell} {c : Nat} {es : List Mi.E} {ck : Nat} {l : List Wh.Al} {now : Int} {many : Nat}
set_option maxHeartbeats 4000000 in
theorem FMem.there (h : FMem w X sl At ct tb c es ck l now many) (num : Int) :
    Calls Try.prog 21 #[.pointer (some ⟨X.gs, 0, none⟩), .int .i64 num] w fun e w' => e = .returned (.bool (Fl.thereB sl num)) ∧ w = w' := by
  obtain ⟨c0, c1, c2, c3⟩ := h.cells
  have hs := h.sm
  by_cases hn : num < 0
  · have HT := Lib.hid (Fl.thereB_neg (sl := sl) hn)
    clear h c1 c2 c3
    go_enter Try.func21, Try.ntmps21
    go_wp2_with fail
    go_ret
    exact ⟨by rw [HT.out]; rfl, rfl⟩
  · obtain ⟨i, rfl⟩ := Int.eq_ofNat_of_zero_le (Int.not_lt.1 hn)
    by_cases hi : i < sl.length
    · have hiz : (i : Int) < (sl.length : Int) := by omega
      have x0 : w.cell? ⟨X.gl, i * 13, none⟩ = some (.bool (Fl.slot sl i).isSome) := h.slot hi (i := 0) rfl
      have HT := Lib.hid (Fl.thereB_nat sl i)
      generalize (Fl.slot sl i).isSome = b at x0 HT
      clear h c1 c2 c3 hn
      go_enter Try.func21, Try.ntmps21
      go_wp2_with fail
      go_ret
      exact ⟨by rw [HT.out]; rfl, rfl⟩
    · have hiz : ¬ (i : Int) < (sl.length : Int) := by omega
      have HT := Lib.hid (Fl.thereB_ge hi)
      clear h c1 c2 c3 hn
      go_enter Try.func21, Try.ntmps21
      go_wp2_with fail
      go_ret
      exact ⟨by rw [HT.out]; rfl, rfl⟩
set_option maxHeartbeats 4000000 in
theorem FMem.known (h : FMem w X sl At ct tb c es ck l now many) (k : Idx.Key) (hk : k.wf) :
    Calls Try.prog 29 #[.pointer (some ⟨X.gs, 0, none⟩), .agg #[.int .i64 k.pr, .int .u32 k.sr, .int .i64 k.sp, .int .u32 k.ds, .int .i64 k.dp]] w fun e w' => e = .returned (.bool (Idx.get tb k).2) ∧ Below w.heap.size w w' := by
  obtain ⟨W, hW⟩ : ∃ W, W = w.alloc (.cells #[.int .i64 k.pr, .int .u32 k.sr, .int .i64 k.sp, .int .u32 k.ds, .int .i64 k.dp] 29) := ⟨_, rfl⟩
  have hbW : Below w.heap.size w W := by rw [hW]; exact bel_a (Below.refl _ _) _
  have hM := h.below hbW
  obtain ⟨W0, hW0⟩ : ∃ W0, W0 = w.heap.size := ⟨_, rfl⟩
  have KS : Hid (∀ w' : World, Below W.heap.size W w' → w'.cell? ⟨X.gs, 1, none⟩ = some (.slice At 1024 ct) ∧ w'.cell? ⟨W0, 0, none⟩ = some (.int .i64 k.pr) ∧ w'.cell? ⟨W0, 1, none⟩ = some (.int .u32 k.sr) ∧ w'.cell? ⟨W0, 2, none⟩ = some (.int .i64 k.sp) ∧ w'.cell? ⟨W0, 3, none⟩ = some (.int .u32 k.ds) ∧ w'.cell? ⟨W0, 4, none⟩ = some (.int .i64 k.dp)) := Lib.hid fun w' hb => ⟨(hM.below hb).cells.2.1, by rw [hW0]; exact key_c5 W k w.heap.size (by rw [hW]; exact BlkV.new _ _ _) w' hb⟩
  have HG := Lib.hid (get_spec At 1024 ct tb k W.drew (hM.below (bel_d (Below.refl _ W))).tab hk (by omega))
  have HB := Lib.hid hbW
  clear h hM hbW
  go_enter Try.func29, Try.ntmps29
  go_upto_region 1 with (fail)
  rw [← hW, ← hW0]
  clear hW hW0
  refine wp_region_held_drew (S := fun w' => w'.cell? ⟨X.gs, 1, none⟩ = some (.slice At 1024 ct) ∧ w'.cell? ⟨W0, 0, none⟩ = some (.int .i64 k.pr) ∧ w'.cell? ⟨W0, 1, none⟩ = some (.int .u32 k.sr) ∧ w'.cell? ⟨W0, 2, none⟩ = some (.int .i64 k.sp) ∧ w'.cell? ⟨W0, 3, none⟩ = some (.int .u32 k.ds) ∧ w'.cell? ⟨W0, 4, none⟩ = some (.int .i64 k.dp)) (by kernel_rfl) (KS.out _ (bel_d (Below.refl _ W))) (fun hHeld => ?_)
  refine wpAnyH_takeD (i := 0) (some 8) (v := ?_) rfl rfl (by kernel_rfl) (by kernel_rfl) (by kernel_rfl) (fun _ _ _ h => h) (Or.inl ⟨by rfl, ?_⟩) (by assumption) ?_
  rotate_left
  · (intro w hSw; (try dsimp only at hSw); go_simp; try with_reducible rfl)
  try simp only [Act.put, List.setIfInBounds_toArray, List.set_cons_zero, List.set_cons_succ]
  refine wpAnyH_takeD (i := 1) (some 9) (v := ?_) rfl rfl (by kernel_rfl) (by kernel_rfl) (by kernel_rfl) (fun _ _ _ h => h) (Or.inl ⟨by rfl, ?_⟩) (by assumption) ?_
  rotate_left
  · (intro w hSw; (try dsimp only at hSw); go_simp; try with_reducible rfl)
  try simp only [Act.put, List.setIfInBounds_toArray, List.set_cons_zero, List.set_cons_succ]
  refine wpAnyH_takeD (i := 2) (some 10) (v := ?_) rfl rfl (by kernel_rfl) (by kernel_rfl) (by kernel_rfl) (fun _ _ _ h => h) (Or.inl ⟨by rfl, ?_⟩) (by assumption) ?_
  rotate_left
  · (intro w hSw; (try dsimp only at hSw); go_simp; try with_reducible rfl)
  try simp only [Act.put, List.setIfInBounds_toArray, List.set_cons_zero, List.set_cons_succ]
  refine wpAnyH_takeD (i := 3) (some 11) (v := ?_) rfl rfl (by kernel_rfl) (by kernel_rfl) (by kernel_rfl) (fun _ _ _ h => h) (Or.inl ⟨by rfl, ?_⟩) (by assumption) ?_
  rotate_left
  · (intro w hSw; (try dsimp only at hSw); go_simp; try with_reducible rfl)
  try simp only [Act.put, List.setIfInBounds_toArray, List.set_cons_zero, List.set_cons_succ]
  refine wpAnyH_takeD (i := 4) (some 12) (v := ?_) rfl rfl (by kernel_rfl) (by kernel_rfl) (by kernel_rfl) (fun _ _ _ h => h) (Or.inl ⟨by rfl, ?_⟩) (by assumption) ?_
  rotate_left
  · (intro w hSw; (try dsimp only at hSw); go_simp; try with_reducible rfl)
  try simp only [Act.put, List.setIfInBounds_toArray, List.set_cons_zero, List.set_cons_succ]
  refine wpAnyH_ready (rs := [5]) (by kernel_rfl) (by simp) ?_
  refine AllReadyH.cons (o := _) rfl (fun K hK => ?_) AllReadyH.nil
  go_simp
  refine HG.out.mono ?_
  rintro e w1 ⟨rfl, hb1⟩
  have hb2 := bel_then (bel_d (Below.refl _ W)) hb1
  have HB1 := Lib.hid (bel_then HB.out hb2)
  go_simp
  refine hK.out _ _ (KS.out _ hb2) (fun hHeld => ?_)
  clear hK K
  try simp only [Act.put, List.setIfInBounds_toArray, List.set_cons_zero, List.set_cons_succ]
  refine wpAnyH_takeD (i := 6) (some 7) (v := ?_) rfl rfl (by kernel_rfl) (by kernel_rfl) (by kernel_rfl) (fun _ _ _ h => h) (Or.inl ⟨by rfl, ?_⟩) (by assumption) ?_
  rotate_left
  · (intro w hSw; (try dsimp only at hSw); go_simp; try with_reducible rfl)
  try simp only [Act.put, List.setIfInBounds_toArray, List.set_cons_zero, List.set_cons_succ]
  refine wpAnyH_takeD (i := 7) (some 14) (v := ?_) rfl rfl (by kernel_rfl) (by kernel_rfl) (by kernel_rfl) (fun _ _ _ h => h) (Or.inl ⟨by rfl, ?_⟩) (by assumption) ?_
  rotate_left
  · (intro w hSw; (try dsimp only at hSw); go_simp; try with_reducible rfl)
  try simp only [Act.put, List.setIfInBounds_toArray, List.set_cons_zero, List.set_cons_succ]
  refine wpAnyH_takeD (i := 8) (some 15) (v := ?_) rfl rfl (by kernel_rfl) (by kernel_rfl) (by kernel_rfl) (fun _ _ _ h => h) (Or.inl ⟨by rfl, ?_⟩) (by assumption) ?_
  rotate_left
  · (intro w hSw; (try dsimp only at hSw); go_simp; try with_reducible rfl)
  try simp only [Act.put, List.setIfInBounds_toArray, List.set_cons_zero, List.set_cons_succ]
  refine wpAnyH_takeD (i := 9) (some 5) (v := ?_) rfl rfl (by kernel_rfl) (by kernel_rfl) (by kernel_rfl) (fun _ _ _ h => h) (Or.inl ⟨by rfl, ?_⟩) (by assumption) ?_
  rotate_left
  · (intro w hSw; (try dsimp only at hSw); go_simp; try with_reducible rfl)
  try simp only [Act.put, List.setIfInBounds_toArray, List.set_cons_zero, List.set_cons_succ]
  refine wpAnyH_takeD (i := 10) (some 6) (v := ?_) rfl rfl (by kernel_rfl) (by kernel_rfl) (by kernel_rfl) (fun _ _ _ h => h) (Or.inl ⟨by rfl, ?_⟩) (by assumption) ?_
  rotate_left
  · (intro w hSw; (try dsimp only at hSw); go_simp; try with_reducible rfl)
  try simp only [Act.put, List.setIfInBounds_toArray, List.set_cons_zero, List.set_cons_succ]
  refine wpAnyH_done (by kernel_rfl) ?_ _
  go_wp2_with fail
  go_ret
  exact ⟨rfl, HB1.out⟩
set_option maxHeartbeats 4000000 in
theorem FMem.find (h : FMem w X sl At ct tb c es ck l now many) (k : Idx.Key) (hk : k.wf) {n : Int} {ok : Bool} (hg : Idx.get tb k = (n, ok)) (hn : 0 ≤ n) (hn2 : n ≤ 100000) :
    Calls Try.prog 13 #[.pointer (some ⟨X.gs, 0, none⟩), .agg #[.int .i64 k.pr, .int .u32 k.sr, .int .i64 k.sp, .int .u32 k.ds, .int .i64 k.dp]] w fun e w' => e = .returned (.tuple #[.int .i64 (n / 2), .bool (ok && (n % 2 == 1)), .bool ok]) ∧ Below w.heap.size w w' := by
  obtain ⟨W, hW⟩ : ∃ W, W = w.alloc (.cells #[.int .i64 k.pr, .int .u32 k.sr, .int .i64 k.sp, .int .u32 k.ds, .int .i64 k.dp] 29) := ⟨_, rfl⟩
  have hbW : Below w.heap.size w W := by rw [hW]; exact bel_a (Below.refl _ _) _
  have hM := h.below hbW
  obtain ⟨W0, hW0⟩ : ∃ W0, W0 = w.heap.size := ⟨_, rfl⟩
  have KS : Hid (∀ w' : World, Below W.heap.size W w' → w'.cell? ⟨X.gs, 1, none⟩ = some (.slice At 1024 ct) ∧ w'.cell? ⟨W0, 0, none⟩ = some (.int .i64 k.pr) ∧ w'.cell? ⟨W0, 1, none⟩ = some (.int .u32 k.sr) ∧ w'.cell? ⟨W0, 2, none⟩ = some (.int .i64 k.sp) ∧ w'.cell? ⟨W0, 3, none⟩ = some (.int .u32 k.ds) ∧ w'.cell? ⟨W0, 4, none⟩ = some (.int .i64 k.dp)) := Lib.hid fun w' hb => ⟨(hM.below hb).cells.2.1, by rw [hW0]; exact key_c5 W k w.heap.size (by rw [hW]; exact BlkV.new _ _ _) w' hb⟩
  have hG := get_spec At 1024 ct tb k W.drew (hM.below (bel_d (Below.refl _ W))).tab hk (by omega)
  rw [hg] at hG
  have HG := Lib.hid hG
  have HB := Lib.hid hbW
  clear h hM hbW hG hg
  cases ok
  all_goals
    go_enter Try.func13, Try.ntmps13
    go_upto_region 3 with (fail)
    rw [← hW, ← hW0]
    clear hW hW0
    refine wp_region_held_drew (S := fun w' => w'.cell? ⟨X.gs, 1, none⟩ = some (.slice At 1024 ct) ∧ w'.cell? ⟨W0, 0, none⟩ = some (.int .i64 k.pr) ∧ w'.cell? ⟨W0, 1, none⟩ = some (.int .u32 k.sr) ∧ w'.cell? ⟨W0, 2, none⟩ = some (.int .i64 k.sp) ∧ w'.cell? ⟨W0, 3, none⟩ = some (.int .u32 k.ds) ∧ w'.cell? ⟨W0, 4, none⟩ = some (.int .i64 k.dp)) (by kernel_rfl) (KS.out _ (bel_d (Below.refl _ W))) (fun hHeld => ?_)
    refine wpAnyH_takeD (i := 0) (some 12) (v := ?_) rfl rfl (by kernel_rfl) (by kernel_rfl) (by kernel_rfl) (fun _ _ _ h => h) (Or.inl ⟨by rfl, ?_⟩) (by assumption) ?_
    rotate_left
    · (intro w hSw; (try dsimp only at hSw); go_simp; try with_reducible rfl)
    try simp only [Act.put, List.setIfInBounds_toArray, List.set_cons_zero, List.set_cons_succ]
    refine wpAnyH_takeD (i := 1) (some 13) (v := ?_) rfl rfl (by kernel_rfl) (by kernel_rfl) (by kernel_rfl) (fun _ _ _ h => h) (Or.inl ⟨by rfl, ?_⟩) (by assumption) ?_
    rotate_left
    · (intro w hSw; (try dsimp only at hSw); go_simp; try with_reducible rfl)
    try simp only [Act.put, List.setIfInBounds_toArray, List.set_cons_zero, List.set_cons_succ]
    refine wpAnyH_takeD (i := 2) (some 14) (v := ?_) rfl rfl (by kernel_rfl) (by kernel_rfl) (by kernel_rfl) (fun _ _ _ h => h) (Or.inl ⟨by rfl, ?_⟩) (by assumption) ?_
    rotate_left
    · (intro w hSw; (try dsimp only at hSw); go_simp; try with_reducible rfl)
    try simp only [Act.put, List.setIfInBounds_toArray, List.set_cons_zero, List.set_cons_succ]
    refine wpAnyH_takeD (i := 3) (some 15) (v := ?_) rfl rfl (by kernel_rfl) (by kernel_rfl) (by kernel_rfl) (fun _ _ _ h => h) (Or.inl ⟨by rfl, ?_⟩) (by assumption) ?_
    rotate_left
    · (intro w hSw; (try dsimp only at hSw); go_simp; try with_reducible rfl)
    try simp only [Act.put, List.setIfInBounds_toArray, List.set_cons_zero, List.set_cons_succ]
    refine wpAnyH_takeD (i := 4) (some 16) (v := ?_) rfl rfl (by kernel_rfl) (by kernel_rfl) (by kernel_rfl) (fun _ _ _ h => h) (Or.inl ⟨by rfl, ?_⟩) (by assumption) ?_
    rotate_left
    · (intro w hSw; (try dsimp only at hSw); go_simp; try with_reducible rfl)
    try simp only [Act.put, List.setIfInBounds_toArray, List.set_cons_zero, List.set_cons_succ]
    refine wpAnyH_ready (rs := [5]) (by kernel_rfl) (by simp) ?_
    refine AllReadyH.cons (o := _) rfl (fun K hK => ?_) AllReadyH.nil
    go_simp
    refine HG.out.mono ?_
    rintro e w1 ⟨rfl, hb1⟩
    have hb2 := bel_then (bel_d (Below.refl _ W)) hb1
    have HB1 := Lib.hid (bel_then HB.out hb2)
    go_simp
    refine hK.out _ _ (KS.out _ hb2) (fun hHeld => ?_)
    clear hK K
    try simp only [Act.put, List.setIfInBounds_toArray, List.set_cons_zero, List.set_cons_succ]
    refine wpAnyH_takeD (i := 6) (some 11) (v := ?_) rfl rfl (by kernel_rfl) (by kernel_rfl) (by kernel_rfl) (fun _ _ _ h => h) (Or.inl ⟨by rfl, ?_⟩) (by assumption) ?_
    rotate_left
    · (intro w hSw; (try dsimp only at hSw); go_simp; try with_reducible rfl)
    try simp only [Act.put, List.setIfInBounds_toArray, List.set_cons_zero, List.set_cons_succ]
    refine wpAnyH_takeD (i := 7) (some 18) (v := ?_) rfl rfl (by kernel_rfl) (by kernel_rfl) (by kernel_rfl) (fun _ _ _ h => h) (Or.inl ⟨by rfl, ?_⟩) (by assumption) ?_
    rotate_left
    · (intro w hSw; (try dsimp only at hSw); go_simp; try with_reducible rfl)
    try simp only [Act.put, List.setIfInBounds_toArray, List.set_cons_zero, List.set_cons_succ]
    refine wpAnyH_takeD (i := 8) (some 19) (v := ?_) rfl rfl (by kernel_rfl) (by kernel_rfl) (by kernel_rfl) (fun _ _ _ h => h) (Or.inl ⟨by rfl, ?_⟩) (by assumption) ?_
    rotate_left
    · (intro w hSw; (try dsimp only at hSw); go_simp; try with_reducible rfl)
    try simp only [Act.put, List.setIfInBounds_toArray, List.set_cons_zero, List.set_cons_succ]
    refine wpAnyH_takeD (i := 9) (some 7) (v := ?_) rfl rfl (by kernel_rfl) (by kernel_rfl) (by kernel_rfl) (fun _ _ _ h => h) (Or.inl ⟨by rfl, ?_⟩) (by assumption) ?_
    rotate_left
    · (intro w hSw; (try dsimp only at hSw); go_simp; try with_reducible rfl)
    try simp only [Act.put, List.setIfInBounds_toArray, List.set_cons_zero, List.set_cons_succ]
    refine wpAnyH_takeD (i := 10) (some 8) (v := ?_) rfl rfl (by kernel_rfl) (by kernel_rfl) (by kernel_rfl) (fun _ _ _ h => h) (Or.inl ⟨by rfl, ?_⟩) (by assumption) ?_
    rotate_left
    · (intro w hSw; (try dsimp only at hSw); go_simp; try with_reducible rfl)
    try simp only [Act.put, List.setIfInBounds_toArray, List.set_cons_zero, List.set_cons_succ]
    refine wpAnyH_done (by kernel_rfl) ?_ _
    clear hHeld KS HG hb1 hb2
    go_wp2_with fail
    refine bodyPost_ret (v := .tuple #[.int .i64 (n / 2), _, _]) (by simp [results, Try.results13, go_sem]) rfl ⟨rfl, HB1.out⟩
theorem FMem.len (h : FMem w X sl At ct tb c es ck l now many) : Calls Try.prog 9 #[.pointer (some ⟨X.gs, 0, none⟩)] w fun e w' => e = .returned (.int .i64 many) ∧ w = w' := by
  obtain ⟨c0, c1, c2, c3⟩ := h.cells
  clear h
  go_enter Try.func9, Try.ntmps9
  go_wp2_with fail
  go_ret
  exact ⟨rfl, rfl⟩
theorem flow_size {l : List Value} (h : l.length = 12) : (Try.prog.info? 31).map (·.size) = some l.length := by rw [h]; kernel_rfl
theorem slot_size {l : List Value} (h : l.length = 13) : (Try.prog.info? 62).map (·.size) = some l.length := by rw [h]; kernel_rfl
theorem BlkV.at {g : Nat} {T : TypeId} {vs cs : List Value} (h : BlkV w g T vs) {o : Nat} (hc : ∀ (j : Nat) (v : Value), cs[j]? = some v → vs[o + j]? = some v) : w.rangeAt g o cs := fun j v hv => h.cell (hc j v hv)
theorem FMem.flow_at (h : FMem w X sl At ct tb c es ck l now many) {i : Nat} {f : Fl.F} (hs : Fl.slot sl i = some f) : w.rangeAt X.gl (i * 13 + 1) f.cells := fun j v hv => by
  have := h.slot (p := i) (Fl.slot_lt hs) (i := j + 1) (v := v) (by rw [hs]; exact hv)
  rw [show i * 13 + 1 + j = i * 13 + (j + 1) by omega]
  exact this
set_option maxHeartbeats 4000000 in
theorem FMem.get (h : FMem w X sl At ct tb c es ck l now many) {i : Nat} {f : Fl.F} (hs : Fl.slot sl i = some f) :
    Calls Try.prog 14 #[.pointer (some ⟨X.gs, 0, none⟩), .int .i64 i] w fun e w' => e = .returned (.tuple #[.agg #[.int .i64 f.th.pr, .int .u32 f.th.sr, .int .i64 f.th.sp, .int .u32 f.th.ds, .int .i64 f.th.dp, .int .i64 f.bk.pr, .int .u32 f.bk.sr, .int .i64 f.bk.sp, .int .u32 f.bk.ds, .int .i64 f.bk.dp, .int .i64 f.un, .int .i64 f.no], .bool true]) ∧ Below w.heap.size w w' := by
  obtain ⟨W, hW⟩ : ∃ W, W = w.alloc (.cells #[.int .i64 0, .int .u32 0, .int .i64 0, .int .u32 0, .int .i64 0, .int .i64 0, .int .u32 0, .int .i64 0, .int .u32 0, .int .i64 0, .int .i64 0, .int .i64 0] 31) := ⟨_, rfl⟩
  have hbW : Below w.heap.size w W := by rw [hW]; exact bel_a (Below.refl _ _) _
  have hN : BlkV W w.heap.size 31 [.int .i64 0, .int .u32 0, .int .i64 0, .int .u32 0, .int .i64 0, .int .i64 0, .int .u32 0, .int .i64 0, .int .u32 0, .int .i64 0, .int .i64 0, .int .i64 0] := by rw [hW]; exact BlkV.new _ _ _
  have hM := h.below hbW
  have HT := hM.there i
  rw [Fl.thereB_nat, hs] at HT
  have HT : Hid (Calls Try.prog 21 #[.pointer (some ⟨X.gs, 0, none⟩), .int .i64 i] W fun e w' => e = .returned (.bool true) ∧ W = w') := Lib.hid HT
  have hil := Fl.slot_lt hs
  have hiz : (i : Int) < (sl.length : Int) := by omega
  obtain ⟨c0, c1, c2, c3⟩ := hM.cells
  have HR := Lib.hid (hM.flow_at hs)
  have HB := Lib.hid hbW
  clear h hM hbW hs c1 c2 c3
  go_enter Try.func14, Try.ntmps14
  go_upto_region 1 with (fail)
  rw [← hW]
  clear hW
  go_wp2_with fail
  refine HT.out.mono ?_
  rintro e w1 ⟨rfl, rfl⟩
  clear HT
  go_wp2_with (first | (refine wpList_load_mid rfl 31 _ (by with_reducible rfl) X.gl (i * 13 + 1) (by rfl) [.int .i64 f.th.pr, .int .u32 f.th.sr, .int .i64 f.th.sp, .int .u32 f.th.ds, .int .i64 f.th.dp, .int .i64 f.bk.pr, .int .u32 f.bk.sr, .int .i64 f.bk.sp, .int .u32 f.bk.ds, .int .i64 f.bk.dp, .int .i64 f.un, .int .i64 f.no] _ HR.out Try.underlying31 rfl (flow_size rfl) ?_) | (refine wpList_stB 31 _ _ (by with_reducible rfl) rfl (by rfl) [.int .i64 f.th.pr, .int .u32 f.th.sr, .int .i64 f.th.sp, .int .u32 f.th.ds, .int .i64 f.th.dp, .int .i64 f.bk.pr, .int .u32 f.bk.sr, .int .i64 f.bk.sp, .int .u32 f.bk.ds, .int .i64 f.bk.dp, .int .i64 f.un, .int .i64 f.no] (by rfl) (by exact hN) (by rfl) (flow_size (by rfl)) (by rfl) ?_; intro w6 N6 O6) | fail)
  have HN6 := Lib.hid N6
  have hB6 := O6.bel (Nat.le_refl _) HB.out
  have r0 := N6.cell (i := 0) rfl
  have r1 := N6.cell (i := 1) rfl
  have r2 := N6.cell (i := 2) rfl
  have r3 := N6.cell (i := 3) rfl
  have r4 := N6.cell (i := 4) rfl
  have r5 := N6.cell (i := 5) rfl
  have r6 := N6.cell (i := 6) rfl
  have r7 := N6.cell (i := 7) rfl
  have r8 := N6.cell (i := 8) rfl
  have r9 := N6.cell (i := 9) rfl
  have r10 := N6.cell (i := 10) rfl
  have r11 := N6.cell (i := 11) rfl
  exact bodyPost_ret (v := .tuple #[.agg #[.int .i64 f.th.pr, .int .u32 f.th.sr, .int .i64 f.th.sp, .int .u32 f.th.ds, .int .i64 f.th.dp, .int .i64 f.bk.pr, .int .u32 f.bk.sr, .int .i64 f.bk.sp, .int .u32 f.bk.ds, .int .i64 f.bk.dp, .int .i64 f.un, .int .i64 f.no], .bool true]) (by simp [results, Try.results14, go_sem, r0, r1, r2, r3, r4, r5, r6, r7, r8, r9, r10, r11]) rfl ⟨rfl, hB6⟩
end
end Go.Proofs.Ytdboehogkmidbaa
