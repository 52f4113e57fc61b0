/- The walks of the reference's low, Nums, Hash and Right of tuples. -/
import Derived.Test.YtdfbfhejigifoaaIdxTab
import Derived.Test.YtdfbfhejigifoaaBlkOps
namespace Go.Proofs.Ytdfbfhejigifoaa
open Go.RowKit
set_option linter.unusedVariables false
namespace Idx
def nums (k : Key) : List Int := [k.pr % 256, k.sr, k.sp % 65536, k.ds, k.dp % 65536]
def num (k : Key) (i : Nat) : Int := (nums k).getD i 0
def sizes : List Int := [1, 4, 2, 4, 2]
def siz (i : Nat) : Nat := [1, 4, 2, 4, 2].getD i 0
def offs (i : Nat) : Nat := [0, 1, 5, 7, 11, 13].getD i 0
theorem five {i : Nat} (h : i < 5) : i = 0 ∨ i = 1 ∨ i = 2 ∨ i = 3 ∨ i = 4 := by omega
theorem offs_succ {i : Nat} (h : i < 5) : offs (i + 1) = offs i + siz i := by rcases five h with rfl | rfl | rfl | rfl | rfl <;> rfl
theorem siz_bd {i : Nat} (h : i < 5) : 1 ≤ siz i ∧ siz i ≤ 4 := by rcases five h with rfl | rfl | rfl | rfl | rfl <;> decide
theorem num_bd {k : Key} (hk : k.wf) {i : Nat} (h : i < 5) : 0 ≤ num k i ∧ num k i ≤ 4294967295 := by
  obtain ⟨⟨h1, h2⟩, h3, h4⟩ := hk
  rcases five h with rfl | rfl | rfl | rfl | rfl <;> simp only [num, nums, List.getD_cons_zero, List.getD_cons_succ] <;> omega
theorem nums_get {k : Key} {i : Nat} (h : i < 5) : ((nums k).map (Value.int .i64))[i]? = some (.int .i64 (num k i)) := by
  rcases five h with rfl | rfl | rfl | rfl | rfl <;> rfl
theorem sizes_get {i : Nat} (h : i < 5) : (sizes.map (Value.int .i64))[i]? = some (.int .i64 (siz i)) := by
  rcases five h with rfl | rfl | rfl | rfl | rfl <;> rfl
theorem byte_at {k : Key} (hk : k.wf) {i t : Nat} (h : i < 5) (ht : t < siz i) : k.bytes.getD (offs i + t) 0 = num k i / 256 ^ (siz i - 1 - t) % 256 := by
  obtain ⟨⟨h1, h2⟩, h3, h4⟩ := hk
  rcases five h with rfl | rfl | rfl | rfl | rfl
  · have : t = 0 := by have : siz 0 = 1 := rfl; omega
    subst this
    show k.pr % 256 = k.pr % 256 / 256 ^ 0 % 256
    simp
  · have : siz 1 = 4 := rfl
    rcases (show t = 0 ∨ t = 1 ∨ t = 2 ∨ t = 3 by omega) with rfl | rfl | rfl | rfl
    · show k.sr / 16777216 % 256 = k.sr / 256 ^ 3 % 256; rw [show (256 : Int) ^ 3 = 16777216 by rfl]
    · show k.sr / 65536 % 256 = k.sr / 256 ^ 2 % 256; rw [show (256 : Int) ^ 2 = 65536 by rfl]
    · show k.sr / 256 % 256 = k.sr / 256 ^ 1 % 256; rw [show (256 : Int) ^ 1 = 256 by rfl]
    · show k.sr % 256 = k.sr / 256 ^ 0 % 256; rw [show (256 : Int) ^ 0 = 1 by rfl]; omega
  · have : siz 2 = 2 := rfl
    rcases (show t = 0 ∨ t = 1 by omega) with rfl | rfl
    · show k.sp / 256 % 256 = k.sp % 65536 / 256 ^ 1 % 256; rw [show (256 : Int) ^ 1 = 256 by rfl]; omega
    · show k.sp % 256 = k.sp % 65536 / 256 ^ 0 % 256; rw [show (256 : Int) ^ 0 = 1 by rfl]; omega
  · have : siz 3 = 4 := rfl
    rcases (show t = 0 ∨ t = 1 ∨ t = 2 ∨ t = 3 by omega) with rfl | rfl | rfl | rfl
    · show k.ds / 16777216 % 256 = k.ds / 256 ^ 3 % 256; rw [show (256 : Int) ^ 3 = 16777216 by rfl]
    · show k.ds / 65536 % 256 = k.ds / 256 ^ 2 % 256; rw [show (256 : Int) ^ 2 = 65536 by rfl]
    · show k.ds / 256 % 256 = k.ds / 256 ^ 1 % 256; rw [show (256 : Int) ^ 1 = 256 by rfl]
    · show k.ds % 256 = k.ds / 256 ^ 0 % 256; rw [show (256 : Int) ^ 0 = 1 by rfl]; omega
  · have : siz 4 = 2 := rfl
    rcases (show t = 0 ∨ t = 1 by omega) with rfl | rfl
    · show k.dp / 256 % 256 = k.dp % 65536 / 256 ^ 1 % 256; rw [show (256 : Int) ^ 1 = 256 by rfl]; omega
    · show k.dp % 256 = k.dp % 65536 / 256 ^ 0 % 256; rw [show (256 : Int) ^ 0 = 1 by rfl]; omega
theorem low_eq (n m : Int) (hm : m = 256 ∨ m = 65536) : (if Int.tmod n m < 0 then Int.tmod n m + m else Int.tmod n m) = n % m := by
  rcases hm with rfl | rfl
  · rcases Int.le_total 0 n with h | h
    · rw [Int.tmod_eq_emod_of_nonneg h, if_neg (by omega)]
    · have e : Int.tmod n 256 = -((-n) % 256) := by
        have := Int.tmod_eq_emod_of_nonneg (a := -n) (b := 256) (by omega)
        rw [Int.neg_tmod] at this
        omega
      rw [e]
      split <;> omega
  · rcases Int.le_total 0 n with h | h
    · rw [Int.tmod_eq_emod_of_nonneg h, if_neg (by omega)]
    · have e : Int.tmod n 65536 = -((-n) % 65536) := by
        have := Int.tmod_eq_emod_of_nonneg (a := -n) (b := 65536) (by omega)
        rw [Int.neg_tmod] at this
        omega
      rw [e]
      split <;> omega
end Idx
set_option maxHeartbeats 1000000 in
theorem low_spec (n m : Int) (hm : m = 256 ∨ m = 65536) (w : World) : Calls Try.prog 35 #[.int .i64 n, .int .i64 m] w fun e w' => e = .returned (.int .i64 (n % m)) ∧ w = w' := by
  have HE := Lib.hid (Idx.low_eq n m hm)
  have hm0 : m ≠ 0 := by omega
  have hmb : 0 < m ∧ m ≤ 65536 := by omega
  obtain ⟨r, hr⟩ : ∃ r, Int.tmod n m = r := ⟨_, rfl⟩
  have hE0 := HE.out
  rw [hr] at hE0
  have b1 := Int.emod_nonneg n hm0
  have b2 := Int.emod_lt_of_pos n hmb.1
  have hb : -65536 ≤ r ∧ r < 65536 := by
    generalize n % m = q at hE0 b1 b2
    have hq : r + m = q ∨ (0 ≤ r ∧ r = q) := by
      split at hE0
      · exact .inl hE0
      · rename_i h0
        exact .inr ⟨Int.not_lt.1 h0, hE0⟩
    have hr0 : r + m = q → r < 65536 ∧ -65536 < r ∨ True := fun _ => .inr trivial
    have hlt : r < m := by
      have := Int.tmod_lt_of_pos n hmb.1
      rw [hr] at this; exact this
    rcases hq with h | ⟨h, h'⟩
    · exact ⟨by omega, by omega⟩
    · exact ⟨by omega, by omega⟩
  rw [hr] at HE
  clear hm hE0 b1 b2
  by_cases h0 : r < 0
  · have hE : Hid (r + m = n % m) := Lib.hid (by have := HE.out; rw [if_pos h0] at this; exact this)
    go_enter Try.func35, Try.ntmps35
    go_wp2
    go_ret
    exact ⟨ret_int hE.out, rfl⟩
  · have hE : Hid (r = n % m) := Lib.hid (by have := HE.out; rw [if_neg h0] at this; exact this)
    go_enter Try.func35, Try.ntmps35
    go_wp2
    go_ret
    exact ⟨ret_int hE.out, rfl⟩
theorem arr5_size {n : Nat} (h : n = 5) : (Try.prog.info? 60).map (·.size) = some n := by rw [h]; kernel_rfl
set_option maxHeartbeats 4000000 in
theorem nums_spec (k : Idx.Key) (hk : k.wf) (w : World) : Calls Try.prog 33 #[.agg #[.int .i64 k.pr, .int .u32 k.sr, .int .i64 k.sp, .int .u32 k.ds, .int .i64 k.dp]] w fun e w' => e = .returned (.agg #[.int .i64 (k.pr % 256), .int .i64 k.sr, .int .i64 (k.sp % 65536), .int .i64 k.ds, .int .i64 (k.dp % 65536)]) ∧ Below w.heap.size w w' := by
  obtain ⟨W, hW⟩ : ∃ W, W = (w.alloc (.cells #[.int .i64 k.pr, .int .u32 k.sr, .int .i64 k.sp, .int .u32 k.ds, .int .i64 k.dp] 25)).alloc (.cells #[.int .i64 0, .int .i64 0, .int .i64 0, .int .i64 0, .int .i64 0] 60) := ⟨_, rfl⟩
  have hbW : Below w.heap.size w W := by rw [hW]; exact bel_al2 (bel_al2 (Below.refl _ _) _) _
  have B0 : BlkV W w.heap.size 25 [.int .i64 k.pr, .int .u32 k.sr, .int .i64 k.sp, .int .u32 k.ds, .int .i64 k.dp] := by rw [hW]; exact (BlkV.new _ _ _).alloc _
  have B1 : BlkV W (w.heap.size + 1) 60 [.int .i64 0, .int .i64 0, .int .i64 0, .int .i64 0, .int .i64 0] := by rw [hW]; exact BlkV.new_at (w.alloc (.cells #[.int .i64 k.pr, .int .u32 k.sr, .int .i64 k.sp, .int .u32 k.ds, .int .i64 k.dp] 25)) _ _ (by simp)
  have KS : Hid (∀ w' : World, Below W.heap.size W w' → w'.cell? ⟨w.heap.size, 0, none⟩ = some (.int .i64 k.pr) ∧ w'.cell? ⟨w.heap.size, 1, none⟩ = some (.int .u32 k.sr) ∧ w'.cell? ⟨w.heap.size, 2, none⟩ = some (.int .i64 k.sp) ∧ w'.cell? ⟨w.heap.size, 3, none⟩ = some (.int .u32 k.ds) ∧ w'.cell? ⟨w.heap.size, 4, none⟩ = some (.int .i64 k.dp)) := Lib.hid fun w' hb => key_c5 W k w.heap.size B0 w' hb
  obtain ⟨⟨hs2, hs3⟩, hd2, hd3⟩ := hk
  go_enter Try.func33, Try.ntmps33
  go_upto_region 1 with (fail)
  rw [← hW]
  clear hW
  have B1h := Lib.hid B1
  have B0h := Lib.hid B0
  have e1 : IntKind.i64.wrap k.sr = k.sr := by rw [IntKind.wrap_i64]; omega
  have e2 : IntKind.i64.wrap k.ds = k.ds := by rw [IntKind.wrap_i64]; omega
  clear B0 B1
  refine wp_region_held_drew (S := fun w' => w'.cell? ⟨w.heap.size, 0, none⟩ = some (.int .i64 k.pr) ∧ w'.cell? ⟨w.heap.size, 1, none⟩ = some (.int .u32 k.sr) ∧ w'.cell? ⟨w.heap.size, 2, none⟩ = some (.int .i64 k.sp) ∧ w'.cell? ⟨w.heap.size, 3, none⟩ = some (.int .u32 k.ds) ∧ w'.cell? ⟨w.heap.size, 4, none⟩ = some (.int .i64 k.dp)) (by kernel_rfl) (KS.out _ (by repeat (first | with_reducible exact Below.refl W.heap.size W | with_reducible refine bel_al2 ?_ _ | with_reducible refine bel_dr2 ?_ | with_reducible refine bel_drN2 ?_ _))) (fun hHeld => ?_)
  refine wpAnyH_takeD (i := 0) (some 3) (v := ?_) rfl rfl (by kernel_rfl) (by kernel_rfl) (by kernel_rfl) (fun _ _ _ h => h) (Or.inl ⟨by rfl, ?_⟩) (by assumption) ?_
  rotate_left
  · (intro w hSw; (try dsimp only at hSw); go_simp; try with_reducible rfl)
  try simp only [Act.put, List.setIfInBounds_toArray, List.set_cons_zero, List.set_cons_succ]
  refine wpAnyH_takeD (i := 1) (some 4) (v := ?_) rfl rfl (by kernel_rfl) (by kernel_rfl) (by kernel_rfl) (fun _ _ _ h => h) (Or.inl ⟨by rfl, ?_⟩) (by assumption) ?_
  rotate_left
  · (intro w hSw; (try dsimp only at hSw); go_simp; try with_reducible rfl)
  try simp only [Act.put, List.setIfInBounds_toArray, List.set_cons_zero, List.set_cons_succ]
  refine wpAnyH_takeD (i := 3) (some 6) (v := ?_) rfl rfl (by kernel_rfl) (by kernel_rfl) (by kernel_rfl) (fun _ _ _ h => h) (Or.inl ⟨by rfl, ?_⟩) (by assumption) ?_
  rotate_left
  · (intro w hSw; (try dsimp only at hSw); go_simp; try with_reducible rfl)
  try simp only [Act.put, List.setIfInBounds_toArray, List.set_cons_zero, List.set_cons_succ]
  refine wpAnyH_takeD (i := 4) (some 7) (v := ?_) rfl rfl (by kernel_rfl) (by kernel_rfl) (by kernel_rfl) (fun _ _ _ h => h) (Or.inl ⟨by rfl, ?_⟩) (by assumption) ?_
  rotate_left
  · (intro w hSw; (try dsimp only at hSw); go_simp; try with_reducible rfl)
  try simp only [Act.put, List.setIfInBounds_toArray, List.set_cons_zero, List.set_cons_succ]
  refine wpAnyH_takeD (i := 5) (some 8) (v := ?_) rfl rfl (by kernel_rfl) (by kernel_rfl) (by kernel_rfl) (fun _ _ _ h => h) (Or.inl ⟨by rfl, ?_⟩) (by assumption) ?_
  rotate_left
  · (intro w hSw; (try dsimp only at hSw); go_simp; try with_reducible rfl)
  try simp only [Act.put, List.setIfInBounds_toArray, List.set_cons_zero, List.set_cons_succ]
  refine wpAnyH_takeD (i := 6) (some 9) (v := ?_) rfl rfl (by kernel_rfl) (by kernel_rfl) (by kernel_rfl) (fun _ _ _ h => h) (Or.inl ⟨by rfl, ?_⟩) (by assumption) ?_
  rotate_left
  · (intro w hSw; (try dsimp only at hSw); go_simp; try with_reducible rfl)
  try simp only [Act.put, List.setIfInBounds_toArray, List.set_cons_zero, List.set_cons_succ]
  refine wpAnyH_takeD (i := 7) (some 10) (v := ?_) rfl rfl (by kernel_rfl) (by kernel_rfl) (by kernel_rfl) (fun _ _ _ h => h) (Or.inl ⟨by rfl, ?_⟩) (by assumption) ?_
  rotate_left
  · (intro w hSw; (try dsimp only at hSw); go_simp; try with_reducible rfl)
  try simp only [Act.put, List.setIfInBounds_toArray, List.set_cons_zero, List.set_cons_succ]
  refine wpAnyH_takeD (i := 9) (some 12) (v := ?_) rfl rfl (by kernel_rfl) (by kernel_rfl) (by kernel_rfl) (fun _ _ _ h => h) (Or.inl ⟨by rfl, ?_⟩) (by assumption) ?_
  rotate_left
  · (intro w hSw; (try dsimp only at hSw); go_simp; try with_reducible rfl)
  try simp only [Act.put, List.setIfInBounds_toArray, List.set_cons_zero, List.set_cons_succ]
  refine wpAnyH_takeD (i := 10) (some 13) (v := ?_) rfl rfl (by kernel_rfl) (by kernel_rfl) (by kernel_rfl) (fun _ _ _ h => h) (Or.inl ⟨by rfl, ?_⟩) (by assumption) ?_
  rotate_left
  · (intro w hSw; (try dsimp only at hSw); go_simp; try with_reducible rfl)
  try simp only [Act.put, List.setIfInBounds_toArray, List.set_cons_zero, List.set_cons_succ]
  refine wpAnyH_takeD (i := 11) (some 14) (v := ?_) rfl rfl (by kernel_rfl) (by kernel_rfl) (by kernel_rfl) (fun _ _ _ h => h) (Or.inl ⟨by rfl, ?_⟩) (by assumption) ?_
  rotate_left
  · (intro w hSw; (try dsimp only at hSw); go_simp; try with_reducible rfl)
  try simp only [Act.put, List.setIfInBounds_toArray, List.set_cons_zero, List.set_cons_succ]
  refine wpAnyH_takeD (i := 12) (some 15) (v := ?_) rfl rfl (by kernel_rfl) (by kernel_rfl) (by kernel_rfl) (fun _ _ _ h => h) (Or.inl ⟨by rfl, ?_⟩) (by assumption) ?_
  rotate_left
  · (intro w hSw; (try dsimp only at hSw); go_simp; try with_reducible rfl)
  try simp only [Act.put, List.setIfInBounds_toArray, List.set_cons_zero, List.set_cons_succ]
  refine wpAnyH_takeD (i := 13) (some 16) (v := ?_) rfl rfl (by kernel_rfl) (by kernel_rfl) (by kernel_rfl) (fun _ _ _ h => h) (Or.inl ⟨by rfl, ?_⟩) (by assumption) ?_
  rotate_left
  · (intro w hSw; (try dsimp only at hSw); go_simp; try with_reducible rfl)
  try simp only [Act.put, List.setIfInBounds_toArray, List.set_cons_zero, List.set_cons_succ]
  refine wpAnyH_ready (rs := [2]) (by kernel_rfl) (by simp) ?_
  refine AllReadyH.cons (o := _) rfl (fun K hK => ?_) AllReadyH.nil
  go_simp
  refine (low_spec k.pr 256 (.inl rfl) _).mono ?_
  rintro e x1 ⟨rfl, rfl⟩
  go_wp2_with fail
  refine hK.out _ _ (KS.out _ (by repeat (first | with_reducible exact Below.refl W.heap.size W | with_reducible refine bel_al2 ?_ _ | with_reducible refine bel_dr2 ?_ | with_reducible refine bel_drN2 ?_ _))) (fun hHeld => ?_)
  clear hK K
  try simp only [Act.put, List.setIfInBounds_toArray, List.set_cons_zero, List.set_cons_succ]
  refine wpAnyH_ready (rs := [8]) (by kernel_rfl) (by simp) ?_
  refine AllReadyH.cons (o := _) rfl (fun K hK => ?_) AllReadyH.nil
  go_simp
  refine (low_spec k.sp 65536 (.inr rfl) _).mono ?_
  rintro e x2 ⟨rfl, rfl⟩
  go_wp2_with fail
  refine hK.out _ _ (KS.out _ (by repeat (first | with_reducible exact Below.refl W.heap.size W | with_reducible refine bel_al2 ?_ _ | with_reducible refine bel_dr2 ?_ | with_reducible refine bel_drN2 ?_ _))) (fun hHeld => ?_)
  clear hK K
  try simp only [Act.put, List.setIfInBounds_toArray, List.set_cons_zero, List.set_cons_succ]
  refine wpAnyH_ready (rs := [14]) (by kernel_rfl) (by simp) ?_
  refine AllReadyH.cons (o := _) rfl (fun K hK => ?_) AllReadyH.nil
  go_simp
  refine (low_spec k.dp 65536 (.inr rfl) _).mono ?_
  rintro e x3 ⟨rfl, rfl⟩
  go_wp2_with fail
  refine hK.out _ _ (KS.out _ (by repeat (first | with_reducible exact Below.refl W.heap.size W | with_reducible refine bel_al2 ?_ _ | with_reducible refine bel_dr2 ?_ | with_reducible refine bel_drN2 ?_ _))) (fun hHeld => ?_)
  clear hK K
  try simp only [Act.put, List.setIfInBounds_toArray, List.set_cons_zero, List.set_cons_succ]
  refine wpAnyH_takeD (i := 15) (some 18) (v := ?_) rfl rfl (by kernel_rfl) (by kernel_rfl) (by kernel_rfl) (fun _ _ _ h => h) (Or.inl ⟨by rfl, ?_⟩) (by assumption) ?_
  rotate_left
  · (intro w hSw; (try dsimp only at hSw); go_simp; try with_reducible rfl)
  try simp only [Act.put, List.setIfInBounds_toArray, List.set_cons_zero, List.set_cons_succ]
  refine wpAnyH_ready (rs := [16]) (by kernel_rfl) (by simp) ?_
  refine AllReadyH.cons (o := _) rfl (fun K hK => ?_) AllReadyH.nil
  rw [if_pos (by rfl)]
  refine wp_stB 60 _ _ rfl (by rfl) (by rfl) [.int .i64 (k.pr % 256), .int .i64 k.sr, .int .i64 (k.sp % 65536), .int .i64 k.ds, .int .i64 (k.dp % 65536)] (by rfl) (B1h.out.below (by repeat (first | with_reducible exact Below.refl W.heap.size W | with_reducible refine bel_al2 ?_ _ | with_reducible refine bel_dr2 ?_ | with_reducible refine bel_drN2 ?_ _))) (by rfl) (arr5_size (by rfl)) (by rfl) ?_
  intro z Z O
  have hz : Below w.heap.size w z := O.bel (by omega) (bel_then hbW (by repeat (first | with_reducible exact Below.refl W.heap.size W | with_reducible refine bel_al2 ?_ _ | with_reducible refine bel_dr2 ?_ | with_reducible refine bel_drN2 ?_ _)))
  have z0 := Z.cell (i := 0) rfl
  have z1 := Z.cell (i := 1) rfl
  have z2 := Z.cell (i := 2) rfl
  have z3 := Z.cell (i := 3) rfl
  have z4 := Z.cell (i := 4) rfl
  refine hK.out _ _ (key_c5 z k w.heap.size (BlkV.only (B0h.out.below (by repeat (first | with_reducible exact Below.refl W.heap.size W | with_reducible refine bel_al2 ?_ _ | with_reducible refine bel_dr2 ?_ | with_reducible refine bel_drN2 ?_ _))) O (by omega)) z (Below.refl _ _)) (fun hHeld => ?_)
  clear hK K
  try simp only [Act.put, List.setIfInBounds_toArray, List.set_cons_zero, List.set_cons_succ]
  refine wpAnyH_done (by kernel_rfl) ?_ _
  go_wp2_with fail
  refine bodyPost_ret (v := .agg #[.int .i64 (k.pr % 256), .int .i64 k.sr, .int .i64 (k.sp % 65536), .int .i64 k.ds, .int .i64 (k.dp % 65536)]) (by simp [results, Try.results33, go_sem, z0, z1, z2, z3, z4]) rfl ⟨rfl, hz⟩
set_option maxHeartbeats 4000000 in
theorem refRight_spec (k : Idx.Key) (w : World) : Calls Try.prog 26 #[.agg #[.int .i64 k.pr, .int .u32 k.sr, .int .i64 k.sp, .int .u32 k.ds, .int .i64 k.dp]] w fun e w' => e = .returned (.bool (Idx.right k)) ∧ Below w.heap.size w w' := by
  obtain ⟨W, hW⟩ : ∃ W, W = w.alloc (.cells #[.int .i64 k.pr, .int .u32 k.sr, .int .i64 k.sp, .int .u32 k.ds, .int .i64 k.dp] 25) := ⟨_, rfl⟩
  have hbW : Below w.heap.size w W := by rw [hW]; exact (Below.refl _ _).alloc (Nat.le_refl _) _
  obtain ⟨c0, c1, c2, c3, c4⟩ := key_c5 W k w.heap.size (by rw [hW]; exact BlkV.new _ _ _) W (Below.refl _ _)
  have HR : Hid (Idx.right k = (decide (0 ≤ k.pr) && decide (k.pr < 256) && decide (0 ≤ k.sp) && decide (k.sp < 65536) && decide (0 ≤ k.dp) && decide (k.dp < 65536))) := Lib.hid (by
    unfold Idx.right
    rw [Bool.eq_iff_iff]
    simp
    omega)
  go_enter Try.func26, Try.ntmps26
  go_upto_region 1 with (fail)
  rw [← hW]
  clear hW
  go_wp2_with fail
  all_goals
    go_ret
    exact ⟨ret_bool (by rw [HR.out]; first | (simp_all; done) | (simp_all; omega)), hbW⟩
theorem Idx.p256 : ∀ j : Nat, (0 : Int) < 256 ^ j
  | 0 => by decide
  | j + 1 => by
    have := Idx.p256 j
    rw [Int.pow_succ]
    omega
theorem Idx.div_pow {x : Int} {j : Nat} : x / 256 ^ j / 256 = x / 256 ^ (j + 1) := by
  rw [Int.ediv_ediv_of_nonneg (Int.le_of_lt (Idx.p256 j)), Int.pow_succ]
theorem Idx.div_bd {x : Int} (h0 : 0 ≤ x) (h1 : x ≤ 4294967295) (j : Nat) : 0 ≤ x / 256 ^ j ∧ x / 256 ^ j ≤ 4294967295 := by
  have hp := Idx.p256 j
  refine ⟨Int.ediv_nonneg h0 (by omega), ?_⟩
  have := Int.ediv_le_self (a := x) (256 ^ j) h0
  omega
set_option maxRecDepth 8000 in
set_option maxHeartbeats 8000000 in
theorem refHash_spec (k : Idx.Key) (hk : k.wf) (w : World) : Calls Try.prog 30 #[.agg #[.int .i64 k.pr, .int .u32 k.sr, .int .i64 k.sp, .int .u32 k.ds, .int .i64 k.dp], .int .u32 0] w fun e w' => e = .returned (.int .u32 (Idx.hash k)) ∧ Below w.heap.size w w' := by
  obtain ⟨W, hW⟩ : ∃ W, W = w.alloc (.cells #[.int .i64 k.pr, .int .u32 k.sr, .int .i64 k.sp, .int .u32 k.ds, .int .i64 k.dp] 25) := ⟨_, rfl⟩
  have hbW : Below w.heap.size w W := by rw [hW]; exact (Below.refl _ _).alloc (Nat.le_refl _) _
  obtain ⟨c0, c1, c2, c3, c4⟩ := key_c5 W k w.heap.size (by rw [hW]; exact BlkV.new _ _ _) W (Below.refl _ _)
  have HN := Lib.hid (nums_spec k hk W)
  have HKW := Lib.hid hk
  have HF : Hid (k.bytes.foldl Idx.mix 2166136261 = Idx.hash k) := Lib.hid (by unfold Idx.hash; rfl)
  have hx0 : Go.bits .xor .u32 2166136261 0 = 2166136261 := by decide +kernel
  clear hk
  go_enter Try.func30, Try.ntmps30
  go_upto_region 2 with (fail)
  rw [← hW]
  clear hW
  go_wp2_with fail
  refine HN.out.mono ?_
  rintro e w2 ⟨rfl, hb⟩
  have HB2 := Lib.hid (bel_then hbW hb)
  clear hb c0 c1 c2 c3 c4 HN hbW
  go_upto_region 4 with (fail)
  clear hx0
  obtain ⟨W4, hW4⟩ : ∃ W4, W4 = (w2.alloc (.cells #[.int .i64 (k.pr % 256), .int .i64 k.sr, .int .i64 (k.sp % 65536), .int .i64 k.ds, .int .i64 (k.dp % 65536)] 60)).alloc (.cells #[.int .i64 1, .int .i64 4, .int .i64 2, .int .i64 4, .int .i64 2] 60) := ⟨_, rfl⟩
  have HB4 : Hid (Below w.heap.size w W4) := Lib.hid (by rw [hW4]; exact bel_al2 (bel_al2 HB2.out _) _)
  obtain ⟨g, hgg⟩ : ∃ g, g = w2.heap.size := ⟨_, rfl⟩
  have BN : Hid (BlkV W4 g 60 ((Idx.nums k).map (Value.int .i64))) := Lib.hid (by rw [hW4, hgg]; exact (BlkV.new w2 60 ((Idx.nums k).map (Value.int .i64))).alloc _)
  have BS : Hid (BlkV W4 (g + 1) 60 (Idx.sizes.map (Value.int .i64))) := Lib.hid (by rw [hW4, hgg]; exact BlkV.new_at (w2.alloc _) 60 (Idx.sizes.map (Value.int .i64)) (by simp))
  rw [← hW4, ← hgg]
  clear hW4 hgg HB2
  obtain ⟨l, hl⟩ : ∃ l, l = k.bytes := ⟨_, rfl⟩
  have HL := Lib.hid hl
  have hlen : l.length = 13 := by rw [hl]; rfl
  have HLen := Lib.hid hlen
  clear hl hlen
  go_wp2_with fail
  go_loop [5, 8] (fun h s8 => ∃ i : Nat, i ≤ 5 ∧ s8 = .int .i64 i ∧ h = .int .u32 ((l.take (Idx.offs i)).foldl Idx.mix 2166136261)) (fun _ s8 => 5 - (intOf s8).toNat)
  case atStart => exact ⟨0, by omega, rfl, rfl⟩
  case round =>
    obtain ⟨i, hi, rfl, rfl⟩ := hrel
    by_cases hlt : i < 5
    · have hltz : (i : Int) < 5 := by omega
      have hcn := BN.out.cell (Idx.nums_get hlt)
      have hcs := BS.out.cell (Idx.sizes_get hlt)
      have hnb := Idx.num_bd HKW.out hlt
      have hsb := Idx.siz_bd hlt
      have HO := Lib.hid (Idx.offs_succ hlt)
      have HBY : Hid (∀ t, t < Idx.siz i → l.getD (Idx.offs i + t) 0 = Idx.num k i / 256 ^ (Idx.siz i - 1 - t) % 256) := Lib.hid fun t ht => by rw [HL.out]; exact Idx.byte_at HKW.out hlt ht
      have HOL : Hid (Idx.offs i + Idx.siz i ≤ 13) := Lib.hid (by rcases Idx.five hlt with rfl | rfl | rfl | rfl | rfl <;> decide)
      generalize Idx.num k i = x at *
      generalize Idx.siz i = s at *
      generalize hof : Idx.offs i = o at *
      have HOF := Lib.hid hof
      clear hof
      go_wp2_with fail
      go_loop [5, 9] (fun h s9 => ∃ (m : Nat) (z : Int), m ≤ s ∧ z + 1 = m ∧ s9 = .int .i64 z ∧ h = .int .u32 ((l.take (o + (s - m))).foldl Idx.mix 2166136261)) (fun _ s9 => (intOf s9 + 1).toNat)
      case atStart => exact ⟨s, (s : Int) - 1, by omega, by omega, rfl, by rw [Nat.sub_self, Nat.add_zero]⟩
      case round =>
        obtain ⟨m, z, hm, hz, rfl, rfl⟩ := hrel
        have hbd := Idx.fold_bd 2166136261 (by decide) (by decide) (l.take (o + (s - m)))
        by_cases hm0 : m = 0
        · have hz0 : z < 0 := by omega
          have hz1 : ¬ (0 ≤ z) := by omega
          have HE : Hid ((l.take (o + (s - m))).foldl Idx.mix 2166136261 = (l.take (Idx.offs (i + 1))).foldl Idx.mix 2166136261) := Lib.hid (by rw [HO.out, hm0, Nat.sub_zero])
          clear hm0
          go_wp2_with fail
          go_round
          case rel => exact ⟨i + 1, by omega, by go_num, by rw [HE.out]⟩
          case measure => first | (simp [intOf]; done) | (simp [intOf]; omega)
        · obtain ⟨kk, rfl⟩ : ∃ kk, m = kk + 1 := ⟨m - 1, by omega⟩
          obtain rfl : z = (kk : Int) := by omega
          have hk0 : (0 : Int) ≤ (kk : Int) := by omega
          have HT := Lib.hid (Idx.take_mix (l := l) (k := o + (s - (kk + 1))) (by rw [HLen.out]; have := HOL.out; omega) 2166136261)
          have hby := HBY.out (s - (kk + 1)) (by omega)
          rw [show s - 1 - (s - (kk + 1)) = kk by omega] at hby
          rw [hby] at HT
          have HS : Hid (o + (s - kk) = o + (s - (kk + 1)) + 1) := Lib.hid (by omega)
          clear hz hm0 hby
          generalize (l.take (o + (s - (kk + 1)))).foldl Idx.mix 2166136261 = h at hbd HT
          go_wp2_with fail
          go_loop [10, 11] (fun c s11 => ∃ j : Nat, j ≤ kk ∧ s11 = .int .i64 j ∧ c = .int .i64 (x / 256 ^ j)) (fun _ s11 => kk - (intOf s11).toNat)
          case atStart => exact ⟨0, by omega, rfl, by rw [Int.pow_zero, Int.ediv_one]⟩
          case round =>
            obtain ⟨j, hj, rfl, rfl⟩ := hrel
            have hdb := Idx.div_bd hnb.1 hnb.2 j
            have HD := Lib.hid (Idx.div_pow (x := x) (j := j))
            by_cases hjk : j < kk
            · have hjz : (j : Int) < (kk : Int) := by omega
              generalize x / 256 ^ j = y at *
              go_wp2_with fail
              go_round
              case rel => exact ⟨j + 1, by omega, by go_num, by rw [HD.out]⟩
              case measure => first | (simp [intOf]; done) | (simp [intOf]; omega)
            · have hjz : ¬ (j : Int) < (kk : Int) := by omega
              obtain rfl : j = kk := by omega
              generalize x / 256 ^ j = y at *
              have hym : 0 ≤ y % 256 ∧ y % 256 ≤ 255 := by omega
              clear hjk HD
              go_wp2_with fail
              go_round
              case rel => exact ⟨j, (j : Int) - 1, by omega, by omega, rfl, by rw [HS.out, HT.out]; unfold Idx.mix; rfl⟩
              case measure => first | (simp [intOf]; done) | (simp [intOf]; omega)
    · have hltz : ¬ (i : Int) < 5 := by omega
      have HE : Hid ((l.take (Idx.offs i)).foldl Idx.mix 2166136261 = Idx.hash k) := Lib.hid (by
        obtain rfl : i = 5 := by omega
        rw [show Idx.offs 5 = 13 by rfl, List.take_of_length_le (by rw [HLen.out]; exact Nat.le_refl _), HL.out]
        exact HF.out)
      go_wp2_with fail
      go_ret
      exact ⟨ret_int HE.out, HB4.out⟩
end Go.Proofs.Ytdfbfhejigifoaa
