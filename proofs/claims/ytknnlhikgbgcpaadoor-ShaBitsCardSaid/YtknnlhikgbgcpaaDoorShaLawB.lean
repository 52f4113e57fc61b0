/- The walks of the sha laws' awake, and of ShaBits. -/
import Derived.Test.YtknnlhikgbgcpaaDoorShaBitsF
import Derived.Test.YtknnlhikgbgcpaaDoorShaAwake
import Derived.Deep.RegionHeld3
import Derived.Deep.DeepCutAuto
import Derived.Lib.SlBytesConst
namespace Go.Proofs.YtknnlhikgbgcpaaDoor
open Go.RowKit
set_option linter.unusedVariables false
theorem sha_abc : isB [97, 98, 99] := by
  intro x hx
  simp only [List.mem_cons, List.not_mem_nil, or_false] at hx
  omega
theorem rd_new_mark (w : World) (T : TypeId) (l : List Int) (n : Nat) (fr : Nat × Nat) (hn : n = l.length) : Rd (w.alloc (.cells (bs l).toArray T fr)) 1 (some ⟨w.heap.size, 0, none⟩) n (bs l) := by
  subst hn
  refine ⟨by rw [bs_len, Nat.mul_one], fun _ => ⟨_, 0, rfl, by simp, fun j u hu => ?_⟩⟩
  rw [cell_of_row _ _ _ _ T fr (heap_alloc_new w _)]
  simpa using hu
set_option maxRecDepth 4000 in
set_option maxHeartbeats 4000000 in
theorem sha_awake (w : World) (hT : Tabs w) : Calls Tryd.prog 16 #[] w fun e w' => e = .returned (.bool true) ∧ Below w.heap.size w w' := by
  have HC := sum_spec none 0 0 [] w hT (Rd.nil_ none) (by intro x hx; cases hx) (by omega)
  have HT := Lib.hid hT
  clear hT
  go_enter Tryd.func16, Tryd.ntmps16
  go_wp2_with fail
  refine HC.mono ?_
  rintro e w1 ⟨A1, c1, rfl, hown, hb⟩
  have R1 := Rd.of_own hown
  clear HC hown
  have kc := Lib.run_convert_bytes_const (P := Tryd.prog) w1 24 5 #[.int .u8 97, .int .u8 98, .int .u8 99] 3 3 Tryd.underlying24 Tryd.underlying5
  have HC2 := sum_spec (some ⟨w1.heap.size, 0, none⟩) 3 3 [97, 98, 99] (w1.alloc (.cells #[.int .u8 97, .int .u8 98, .int .u8 99] 5 (3, 4))) ((HT.out.below hb).below ((Below.refl _ _).alloc (Nat.le_refl _) _)) (rd_new_mark w1 5 [97, 98, 99] 3 (3, 4) rfl) sha_abc (by omega)
  have HR1 := Lib.hid R1
  clear R1
  go_wp2_with fail
  refine HC2.mono ?_
  rintro e w2 ⟨A2, c2, rfl, hown, hb2⟩
  have hbF : Below w.heap.size w w2 := (hb.alloc hb.size _).trans (hb2.mono (by have := hb.size; simp; omega))
  have R2 := Rd.of_own hown
  have R1 := (HR1.out.alloc (.cells #[.int .u8 97, .int .u8 98, .int .u8 99] 5 (3, 4))).below hb2
  clear hown HR1 HC2
  obtain ⟨e1, e2⟩ := Sha.sum_nil
  obtain ⟨e3, e4⟩ := Sha.sum_abc
  obtain ⟨g, off, rfl, hg, x0⟩ := R1.byte (k := 0) (by omega)
  obtain ⟨g', off', e', hg', x31⟩ := R1.byte (k := 31) (by omega)
  injection e' with e'; injection e' with q1 q2; subst q1; subst q2
  obtain ⟨g2, off2, rfl, hg2, y0⟩ := R2.byte (k := 0) (by omega)
  obtain ⟨g', off', e', hg', y31⟩ := R2.byte (k := 31) (by omega)
  injection e' with e'; injection e' with q1 q2; subst q1; subst q2
  rw [e1, Nat.add_zero] at x0
  rw [e2] at x31
  rw [e3, Nat.add_zero] at y0
  rw [e4] at y31
  clear R1 R2 e1 e2 e3 e4
  go_wp2
  go_ret
  exact ⟨rfl, hbF⟩
theorem Sha.bits_more (l : List Int) (x y : Int) (hx : 1 ≤ x) (hxy : x ≤ y) (hy : y ≤ 32) (k : Int) (hk : k = y - x) : Sha.bits l y / 2 ^ k.toNat = Sha.bits l x := by
  unfold Sha.bits
  rw [if_neg (by omega), if_neg (by omega), Int.ediv_ediv_of_nonneg (by exact Int.le_of_lt (Int.pow_pos (by decide))), ← Int.pow_add]
  rw [show (32 - y).toNat + k.toNat = (32 - x).toNat by omega]
theorem Sha.bits_8 (l : List Int) : Sha.bits l 8 = (Sha.sum l).getD 0 0 := by
  have h := Sha.sum_isB l
  have h1 := h.getD 1
  have h2 := h.getD 2
  have h3 := h.getD 3
  unfold Sha.bits Sha.wordAt
  rw [if_neg (by omega)]
  show _ / 2 ^ 24 = _
  simp only [Nat.mul_zero, Nat.zero_add]
  omega
theorem Sha.bits_bd (l : List Int) (m : Int) : 0 ≤ Sha.bits l m ∧ Sha.bits l m ≤ 4294967295 := by
  unfold Sha.bits
  split
  · omega
  · have := Sha.wordAt_bd (Sha.sum_isB l) 0
    have hp : (0 : Int) < 2 ^ (32 - m).toNat := Int.pow_pos (by decide)
    exact ⟨Int.ediv_nonneg this.1 (Int.le_of_lt hp), Int.le_trans (Int.ediv_le_self _ this.1) this.2⟩
theorem bel_grow {w w' : World} (h : Below w.heap.size w w') (o : Obj) : Below w.heap.size w (w'.alloc o) := h.alloc h.size o
set_option maxRecDepth 4000 in
set_option maxHeartbeats 4000000 in
theorem shabits_walk (A : Option Addr) (n c : Nat) (l : List Int) (a d : Int) (w : World) (hT : Tabs w) (hR : Rd w 1 A n (bs l)) (hB : isB l) (hnc : n ≤ c) (hn : c ≤ 9223372036854775807) (ha0 : 0 ≤ a) (ha1 : a ≤ 255) (hd0 : 0 ≤ d) (hd1 : d ≤ 255) :
    Calls Tryd.prog 5 #[.slice A n c, .int .u8 a, .int .u8 d] w fun e w' => e = .returned (.bool true) ∧ Below w.heap.size w w' := by
  obtain ⟨m, hmin0, hm1, hm2, HMIN⟩ := min_named n 700
  have hmin : (if (700 : Int) < (n : Int) then (700 : Int) else (n : Int)) = (m : Int) := hmin0
  clear hmin0
  have HA := sha_awake w hT
  obtain ⟨X, hX⟩ : ∃ X, a % 32 + 1 = X := ⟨_, rfl⟩
  obtain ⟨Y, hY⟩ : ∃ Y, d % 32 + 1 = Y := ⟨_, rfl⟩
  have hXb : 1 ≤ X ∧ X ≤ 32 := by omega
  have hYb : 1 ≤ Y ∧ Y ≤ 32 := by omega
  have HR := Lib.hid (hR.btake hm1)
  have HB := Lib.hid (hB.take m)
  have HT := Lib.hid hT
  have hmc : (m : Int) ≤ (c : Int) := by omega
  have hm0 : (0 : Int) ≤ (m : Int) := by omega
  clear hR hB hT
  generalize l.take m = lm at HR HB
  go_enter Tryd.func5, Tryd.ntmps5
  go_wp2_with fail
  refine HA.mono ?_
  rintro e w1 ⟨rfl, hb1⟩
  clear HA
  have HR1 := Lib.hid (HR.out.below hb1)
  clear HR
  go_upto_if 28 with (fail)
  go_cut [7, 8] (fun s7 s8 wx => ∃ x y : Int, s7 = .int .i64 x ∧ s8 = .int .i64 y ∧ 1 ≤ x ∧ x ≤ y ∧ y ≤ 32 ∧ wx = w1)
  case first =>
    by_cases hxy : Y < X
    · go_wp2_with fail
      go_meet
      exact ⟨Y, X, rfl, rfl, hYb.1, by omega, hXb.2, rfl⟩
    · go_wp2_with fail
      go_meet
      exact ⟨X, Y, rfl, rfl, hXb.1, by omega, hYb.2, rfl⟩
  case rest =>
  obtain ⟨x, y, rfl, rfl, hx1, hxy, hy32, rfl⟩ := hcut
  clear hX hY hXb hYb
  have HT1 := Lib.hid (HT.out.below hb1)
  have HBW1 := Lib.hid hb1
  clear HT hb1
  go_wp2_with (at_builtin; refine wpList_app0 _ rfl (.tmp 31) (.tmp 32) 24 rfl wc (by exact Below.refl _ _) 5 (.int .u8 0) 1 1 Tryd.underlying24 pad_info8 rfl (by decide) rfl A m c (bs lm) rfl (by exact HR1.out) (one_bs _) (by unfold maxLen; omega) (by omega) ?_; intro A2 c2 w2 hown2 hb2 hg2 hat2)
  have HC4 := sum_spec A2 m c2 lm w2 (HT1.out.below hb2) (Rd.of_own hown2) HB.out (by omega)
  refine HC4.mono ?_
  rintro e w4 ⟨As, cs, rfl, hown4, hb4⟩
  have RB : Rd w4 1 A m (bs lm) := (HR1.out.below hb2).below hb4
  have RC : Rd w4 1 A2 m (bs lm) := (Rd.of_own hown2).below hb4
  have RS := Rd.of_own hown4
  have HT4 := (HT1.out.below hb2).below hb4
  have HBW4 := Lib.hid (bel_then HBW1.out (bel_then hb2 hb4))
  have hml := RB.blen
  obtain ⟨gs, offs, rfl, hgs, x0⟩ := RS.byte (k := 0) (by omega)
  rw [Nat.add_zero] at x0
  obtain ⟨s0a, s0b⟩ := (Sha.sum_isB lm).getD 0
  have e8 := Sha.bits_8 lm
  obtain ⟨v1, hv1⟩ : ∃ v1, v1 = Sha.bits lm x := ⟨_, rfl⟩
  obtain ⟨v2, hv2⟩ : ∃ v2, v2 = Sha.bits lm y := ⟨_, rfl⟩
  obtain ⟨k, hk⟩ : ∃ k, k = y - x := ⟨_, rfl⟩
  have hq : v2 / 2 ^ k.toNat = v1 := by rw [hv1, hv2]; exact Sha.bits_more lm x y hx1 hxy hy32 k hk
  have hw1 : IntKind.i64.wrap (y - x) = k := by rw [hk]; exact IntWalk.i64_in _ (by omega)
  have hw2 : IntKind.u64.wrap k = k := by rw [IntKind.wrap_u64]; omega
  have hk0 : 0 ≤ k := by omega
  have hk1 : k ≤ 32 := by omega
  have hv2b := Sha.bits_bd lm y
  have hv1b := Sha.bits_bd lm x
  rw [← hv2] at hv2b
  rw [← hv1] at hv1b
  obtain ⟨s0, hs0⟩ : ∃ s0, s0 = (Sha.sum lm).getD 0 0 := ⟨_, rfl⟩
  rw [← hs0] at x0 s0a s0b e8
  have hw3 : IntKind.u32.wrap s0 = s0 := by rw [IntKind.wrap_u32]; omega
  have HBX : Hid (∀ w', Below w4.heap.size w4 w' → Calls Tryd.prog 20 #[.slice A m c, .int .i64 x] w' fun e w'' => e = .returned (.int .u32 v1) ∧ Below w'.heap.size w' w'') := Lib.hid fun w' hb => by
    rw [hv1]
    exact bits_spec A m c lm x w' (HT4.below hb) (RB.below hb) HB.out (by omega)
  have HBY : Hid (∀ w', Below w4.heap.size w4 w' → Calls Tryd.prog 20 #[.slice A m c, .int .i64 y] w' fun e w'' => e = .returned (.int .u32 v2) ∧ Below w'.heap.size w' w'') := Lib.hid fun w' hb => by
    rw [hv2]
    exact bits_spec A m c lm y w' (HT4.below hb) (RB.below hb) HB.out (by omega)
  have HB8 : Hid (∀ w', Below w4.heap.size w4 w' → Calls Tryd.prog 20 #[.slice A m c, .int .i64 8] w' fun e w'' => e = .returned (.int .u32 s0) ∧ Below w'.heap.size w' w'') := Lib.hid fun w' hb => by
    rw [← e8]
    exact bits_spec A m c lm 8 w' (HT4.below hb) (RB.below hb) HB.out (by omega)
  have HSM : Hid (∀ w', Below w4.heap.size w4 w' → Calls Tryd.prog 18 #[.slice A m c] w' fun e w'' => ∃ A' c', e = .returned (.slice A' 32 c') ∧ Rd w'' 1 A' 32 (bs (Sha.sum lm)) ∧ Below w'.heap.size w' w'') := Lib.hid fun w' hb =>
    (sum_spec A m c lm w' (HT4.below hb) (RB.below hb) HB.out (by omega)).mono fun e w'' ⟨A', c', h1, h2, h3⟩ => ⟨A', c', h1, Rd.of_own h2, h3⟩
  have HSS : Hid (∀ (A' : Option Addr) (c' : Nat) (w' : World), Below w4.heap.size w4 w' → Rd w' 1 A' 32 (bs (Sha.sum lm)) → Calls Tryd.prog 17 #[.slice (some ⟨gs, offs, none⟩) 32 cs, .slice A' 32 c'] w' fun e w'' => e = .returned (.bool true) ∧ ∃ q, w'' = w'.drewN q) := Lib.hid fun A' c' w' hb hr =>
    (ref_same _ _ _ _ _ _ _ _ w' (RS.below hb) hr (Sha.sum_isB lm) (Sha.sum_isB lm) (by omega)).mono fun e w'' ⟨h1, h2⟩ => ⟨by rw [h1]; simp, h2⟩
  have HBC : Hid (∀ (w' : World), Below w4.heap.size w4 w' → Calls Tryd.prog 17 #[.slice A m c, .slice A2 m c2] w' fun e w'' => e = .returned (.bool true) ∧ ∃ q, w'' = w'.drewN q) := Lib.hid fun w' hb =>
    (ref_same _ _ _ _ _ _ _ _ w' (RB.below hb) (RC.below hb) HB.out HB.out (by omega)).mono fun e w'' ⟨h1, h2⟩ => ⟨by rw [h1]; simp, h2⟩
  have KF : Hid (∀ w' : World, Below w4.heap.size w4 w' → Below w4.heap.size w4 w' ∧ w'.cell? ⟨gs, offs, none⟩ = some (.int .u8 s0)) := Lib.hid fun w' hb => ⟨hb, (hb.cell (p := ⟨gs, offs, none⟩) hgs).trans x0⟩
  clear hv1 hv2 hk hs0 HC4 hown2 hb2 hg2 hat2 hown4 hb4 RB RC RS HT4 HT1 HR1 HBW1 e8 hml hx1 hxy hy32 hmin hm1 hm2 hmc hm0
  go_wp2_with fail
  go_region_held3 (fun w' => Below w4.heap.size w4 w' ∧ w'.cell? ⟨gs, offs, none⟩ = some (.int .u8 s0)) (exact KF.out _ (by repeat (first | with_reducible exact hbn | with_reducible exact Below.refl w4.heap.size w4 | with_reducible refine Below.drewN ?_ _ | with_reducible refine Below.drew ?_)))
    (with_reducible first
      | (refine (HBX.out _ (by repeat (first | with_reducible exact hbn | with_reducible exact Below.refl w4.heap.size w4 | with_reducible refine Below.drewN ?_ _ | with_reducible refine Below.drew ?_))).mono ?_; rintro e w9 ⟨rfl, hb9⟩; have hbn : Below w4.heap.size w4 w9 := bel_then (by repeat (first | with_reducible exact hbn | with_reducible exact Below.refl w4.heap.size w4 | with_reducible refine Below.drewN ?_ _ | with_reducible refine Below.drew ?_)) hb9)
      | (refine (HBY.out _ (by repeat (first | with_reducible exact hbn | with_reducible exact Below.refl w4.heap.size w4 | with_reducible refine Below.drewN ?_ _ | with_reducible refine Below.drew ?_))).mono ?_; rintro e w9 ⟨rfl, hb9⟩; have hbn : Below w4.heap.size w4 w9 := bel_then (by repeat (first | with_reducible exact hbn | with_reducible exact Below.refl w4.heap.size w4 | with_reducible refine Below.drewN ?_ _ | with_reducible refine Below.drew ?_)) hb9)
      | (refine (HB8.out _ (by repeat (first | with_reducible exact hbn | with_reducible exact Below.refl w4.heap.size w4 | with_reducible refine Below.drewN ?_ _ | with_reducible refine Below.drew ?_))).mono ?_; rintro e w9 ⟨rfl, hb9⟩; have hbn : Below w4.heap.size w4 w9 := bel_then (by repeat (first | with_reducible exact hbn | with_reducible exact Below.refl w4.heap.size w4 | with_reducible refine Below.drewN ?_ _ | with_reducible refine Below.drew ?_)) hb9)
      | (refine (HSM.out _ (by repeat (first | with_reducible exact hbn | with_reducible exact Below.refl w4.heap.size w4 | with_reducible refine Below.drewN ?_ _ | with_reducible refine Below.drew ?_))).mono ?_; rintro e w9 ⟨A9, c9, rfl, hR9, hb9⟩; have hbn : Below w4.heap.size w4 w9 := bel_then (by repeat (first | with_reducible exact hbn | with_reducible exact Below.refl w4.heap.size w4 | with_reducible refine Below.drewN ?_ _ | with_reducible refine Below.drew ?_)) hb9)
      | (refine (HSS.out _ _ _ (by repeat (first | with_reducible exact hbn | with_reducible exact Below.refl w4.heap.size w4 | with_reducible refine Below.drewN ?_ _ | with_reducible refine Below.drew ?_)) (by repeat (first | with_reducible exact hR9 | with_reducible refine Rd.drewN ?_ _ | with_reducible refine Rd.drew ?_))).mono ?_; rintro e w9 ⟨rfl, q9, rfl⟩)
      | (refine (HBC.out _ (by repeat (first | with_reducible exact hbn | with_reducible exact Below.refl w4.heap.size w4 | with_reducible refine Below.drewN ?_ _ | with_reducible refine Below.drew ?_))).mono ?_; rintro e w9 ⟨rfl, q9, rfl⟩))
  all_goals
    go_wp2_with fail
    go_ret
    exact ⟨rfl, bel_then HBW4.out (by repeat (first | with_reducible exact hbn | with_reducible exact Below.refl w4.heap.size w4 | with_reducible refine Below.drewN ?_ _ | with_reducible refine Below.drew ?_))⟩
end Go.Proofs.YtknnlhikgbgcpaaDoor
