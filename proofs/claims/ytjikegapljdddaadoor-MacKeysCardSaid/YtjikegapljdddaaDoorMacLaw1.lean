/- The walks of MacRight and MacKeys. -/
import Derived.Test.YtjikegapljdddaaDoorMacAw
namespace Go.Proofs.YtjikegapljdddaaDoor
open Go.RowKit
set_option linter.unusedVariables false
set_option maxHeartbeats 4000000 in
theorem macright_walk (A : Option Addr) (n c : Nat) (l : List Int) (A2 : Option Addr) (n2 c2 : Nat) (l2 : List Int) (k : Int) (w : World) (hT : Tabs w) (hK : TabK w) (hR : Rd w 1 A n (bs l)) (hB : isB l) (hnc : n ≤ c) (hn : c ≤ 9223372036854775807)
    (hR2 : Rd w 1 A2 n2 (bs l2)) (hB2 : isB l2) (hnc2 : n2 ≤ c2) (hn2 : c2 ≤ 9223372036854775807) :
    Calls Tryd.prog 6 #[.slice A n c, .slice A2 n2 c2, .int .i64 k] w fun e w' => e = .returned (.bool true) ∧ Below w.heap.size w w' := by
  obtain ⟨m, hmin0, hm1, hm2, HMIN⟩ := min_named n 300
  have hmin : (if (300 : Int) < (n : Int) then (300 : Int) else (n : Int)) = (m : Int) := hmin0
  obtain ⟨p, hpin0, hp1, hp2, HPIN⟩ := min_named n2 300
  have hpin : (if (300 : Int) < (n2 : Int) then (300 : Int) else (n2 : Int)) = (p : Int) := hpin0
  clear hmin0 hpin0
  have HA := mac_awake w hT
  have HR := Lib.hid (hR.btake hm1)
  have HB := Lib.hid (hB.take m)
  have HR2 := Lib.hid (hR2.btake hp1)
  have HB2 := Lib.hid (hB2.take p)
  have HT := Lib.hid hT
  have HK := Lib.hid hK
  have hmc : (m : Int) ≤ (c : Int) := by omega
  have hm0 : (0 : Int) ≤ (m : Int) := by omega
  have hpc : (p : Int) ≤ (c2 : Int) := by omega
  have hp0 : (0 : Int) ≤ (p : Int) := by omega
  clear hR hB hT hK hR2 hB2
  generalize l.take m = lm at HR HB
  generalize l2.take p = lp at HR2 HB2
  go_enter Tryd.func6, Tryd.ntmps6
  go_wp2_with fail
  refine HA.mono ?_
  rintro e w1 ⟨rfl, hb1⟩
  clear HA
  go_wp2_with fail
  go_quiet (fail)
  have hbq := Below.drewN hb1 nq
  clear hb1
  obtain ⟨w1q, hw1q⟩ : ∃ W, W = w1.drewN nq := ⟨_, rfl⟩
  rw [← hw1q] at hbq
  go_wp2_with fail
  rw [← hw1q]
  clear hw1q
  refine (msum_spec A m c A2 p c2 lm lp w1q (HT.out.below hbq) (HR.out.below hbq) (HR2.out.below hbq) HB.out HB2.out (by omega) (by omega)).mono ?_
  rintro e w2 ⟨A3, c3, rfl, hown2, hb2⟩
  have hbw2 := bel_then hbq hb2
  have R2 := Lib.hid (Rd.of_own hown2)
  clear hown2 hbq hb2
  go_wp2_with fail
  refine (rmsum_spec A m c A2 p c2 lm lp w2 (HK.out.below hbw2) (HR.out.below hbw2) (HR2.out.below hbw2) HB.out HB2.out (by omega) (by omega)).mono ?_
  rintro e w3 ⟨A4, c4, rfl, hown3, hb3⟩
  have hbw3 := bel_then hbw2 hb3
  have R3 := Lib.hid (Rd.of_own hown3)
  have R2' := Lib.hid (R2.out.below hb3)
  clear hown3 hbw2 hb3 R2
  go_wp2_with fail
  refine (ref_same A3 A4 32 c3 32 c4 _ _ w3 R2'.out R3.out (Mac.sum_isB lm lp) (Mac.sum_isB lm lp) (by omega)).mono ?_
  rintro e w4 ⟨rfl, q, rfl⟩
  have hbw4 := Below.drewN hbw3 q
  have hself : (Mac.sum lm lp == Mac.sum lm lp) = true := by simp
  rw [hself]
  clear hself hbw3 R3 R2'
  go_wp2_with fail
  refine (mbits_spec A m c A2 p c2 lm lp k (w3.drewN q) (HT.out.below hbw4) (HR.out.below hbw4) (HR2.out.below hbw4) HB.out HB2.out (by omega) (by omega)).mono ?_
  rintro e w5 ⟨rfl, hb5⟩
  have hbw5 := bel_then hbw4 hb5
  clear hbw4 hb5
  go_wp2_with fail
  refine (rmbits_spec A m c A2 p c2 lm lp k w5 (HK.out.below hbw5) (HR.out.below hbw5) (HR2.out.below hbw5) HB.out HB2.out (by omega) (by omega)).mono ?_
  rintro e w6 ⟨rfl, hb6⟩
  have hbw6 := bel_then hbw5 hb6
  clear hbw5 hb6
  go_wp2_with fail
  go_ret
  exact ⟨rfl, hbw6⟩
set_option maxHeartbeats 4000000 in
theorem mackeys_walk (A : Option Addr) (n c : Nat) (l : List Int) (A2 : Option Addr) (n2 c2 : Nat) (l2 : List Int) (k : Int) (w : World) (hT : Tabs w) (hR : Rd w 1 A n (bs l)) (hB : isB l) (hnc : n ≤ c) (hn : c ≤ 9223372036854775807)
    (hR2 : Rd w 1 A2 n2 (bs l2)) (hB2 : isB l2) (hnc2 : n2 ≤ c2) (hn2 : c2 ≤ 9223372036854775807) (hk0 : 0 ≤ k) (hk1 : k ≤ 255) :
    Calls Tryd.prog 5 #[.slice A n c, .slice A2 n2 c2, .int .u8 k] w fun e w' => e = .returned (.bool true) ∧ Below w.heap.size w w' := by
  obtain ⟨m, hmin0, hm1, hm2, HMIN⟩ := min_named n 200
  have hmin : (if (200 : Int) < (n : Int) then (200 : Int) else (n : Int)) = (m : Int) := hmin0
  obtain ⟨p, hpin0, hp1, hp2, HPIN⟩ := min_named n2 200
  have hpin : (if (200 : Int) < (n2 : Int) then (200 : Int) else (n2 : Int)) = (p : Int) := hpin0
  clear hmin0 hpin0
  have HA := mac_awake w hT
  have HR := Lib.hid (hR.btake hm1)
  have HB := Lib.hid (hB.take m)
  have HR2 := Lib.hid (hR2.btake hp1)
  have HB2 := Lib.hid (hB2.take p)
  have HT := Lib.hid hT
  have hmc : (m : Int) ≤ (c : Int) := by omega
  have hm0 : (0 : Int) ≤ (m : Int) := by omega
  have hpc : (p : Int) ≤ (c2 : Int) := by omega
  have hp0 : (0 : Int) ≤ (p : Int) := by omega
  clear hR hB hT hR2 hB2
  generalize l.take m = lm at HR HB
  generalize l2.take p = lp at HR2 HB2
  go_enter Tryd.func5, Tryd.ntmps5
  go_wp2_with fail
  refine HA.mono ?_
  rintro e w1 ⟨rfl, hb1⟩
  clear HA
  go_wp2_with fail
  go_quiet (fail)
  have hbq := Below.drewN hb1 nq
  clear hb1
  obtain ⟨w1q, hw1q⟩ : ∃ W, W = w1.drewN nq := ⟨_, rfl⟩
  rw [← hw1q] at hbq
  go_wp2_with fail
  rw [← hw1q]
  clear hw1q
  refine (msum_spec A m c A2 p c2 lm lp w1q (HT.out.below hbq) (HR.out.below hbq) (HR2.out.below hbq) HB.out HB2.out (by omega) (by omega)).mono ?_
  rintro e w2 ⟨A3, c3, rfl, hown2, hb2⟩
  have hbw2 := bel_then hbq hb2
  have R2 := Lib.hid (Rd.of_own hown2)
  have hlm := Lib.hid HR.out.blen
  clear hown2 hbq hb2
  by_cases h64 : 64 < m
  · have hz : (64 : Int) < (m : Int) := by omega
    have HLL : Hid (Mac.sum (Sha.sum lm) lp = Mac.sum lm lp) := Lib.hid (Mac.sum_long (by rw [hlm.out]; exact h64) lp)
    go_wp2_with fail
    refine (sum_spec A m c lm w2 (HT.out.below hbw2) (HR.out.below hbw2) HB.out (by omega)).mono ?_
    rintro e w3 ⟨A4, c4, rfl, hown3, hb3⟩
    have hbw3 := bel_then hbw2 hb3
    have R3 := Lib.hid (Rd.of_own hown3)
    have R2' := Lib.hid (R2.out.below hb3)
    clear hown3 hb3 hbw2 R2
    go_wp2_with fail
    refine (msum_spec A4 32 c4 A2 p c2 (Sha.sum lm) lp w3 (HT.out.below hbw3) R3.out (HR2.out.below hbw3) (Sha.sum_isB lm) HB2.out (by omega) (by omega)).mono ?_
    rintro e w4 ⟨A5, c5, rfl, hown4, hb4⟩
    have hbw4 := bel_then hbw3 hb4
    have R4 := Lib.hid (Rd.of_own hown4)
    have R2'' := Lib.hid (R2'.out.below hb4)
    clear hown4 hb4 hbw3 R2' R3
    go_wp2_with fail
    refine (ref_same A3 A5 32 c3 32 c5 _ _ w4 R2''.out R4.out (Mac.sum_isB lm lp) (Mac.sum_isB _ lp) (by omega)).mono ?_
    rintro e w5 ⟨rfl, q, rfl⟩
    have hbw5 := Below.drewN hbw4 q
    have hself : (Mac.sum lm lp == Mac.sum (Sha.sum lm) lp) = true := by rw [HLL.out]; simp
    rw [hself]
    clear hself hbw4 R4 R2''
    go_wp2_with fail
    go_ret
    exact ⟨rfl, hbw5⟩
  · have hz : ¬ (64 : Int) < (m : Int) := by omega
    have hbw2' := hbw2.size
    go_wp2_with (at_builtin; refine wpList_app0 _ rfl (.tmp 34) (.tmp 35) 24 rfl w2 (by exact Below.refl _ _) 5 (.int .u8 0) 1 1 Tryd.underlying24 pad_info8 rfl (by decide) rfl A m c (bs lm) rfl (by exact HR.out.below hbw2) (one_bs _) (by unfold maxLen; omega) (by omega) ?_; intro A4 c4 w4 hown4 hb4 hg4 hat4)
    have HO4 := Lib.hid hown4
    clear hown4 hg4 hat4
    obtain ⟨N, hN⟩ : ∃ N : Nat, N = min k.toNat (64 - m) := ⟨_, rfl⟩
    go_loopg [8, 9] N (fun g s8 s9 wx => ∃ (i L : Nat) (A' : Option Addr) (c' : Nat), i + g = N ∧ L = m + i ∧ s9 = .int .i64 i ∧ s8 = .slice A' L c' ∧ wx.ownsRow w2.heap.size 5 1 (.slice A' L c') L (bs (lm ++ List.replicate i 0)) ∧ Below w2.heap.size w2 wx)
    case atStart => exact ⟨0, m, A4, c4, by omega, rfl, rfl, rfl, by simpa using HO4.out, hb4⟩
    case round =>
      obtain ⟨i, L, A5, c5, hig, hL, rfl, rfl, hown, hbx⟩ := hrel
      clear hb4 HO4
      have hbx' := hbx.size
      have HO := Lib.hid hown
      have HL := Lib.hid hL
      have HN := Lib.hid hN
      clear hown
      cases gk with
      | zero =>
        obtain rfl : i = N := by omega
        have HRR := Lib.hid (Rd.of_own HO.out)
        have HLL : Hid (Mac.sum (lm ++ List.replicate i 0) lp = Mac.sum lm lp) := Lib.hid (Mac.sum_more i (by rw [hlm.out]; omega) lp)
        have HBM : Hid (isB (lm ++ List.replicate i 0)) := Lib.hid (Mac.isB_app HB.out (fun y hy => by have := List.eq_of_mem_replicate hy; omega))
        generalize lm ++ List.replicate i 0 = lg at HRR HLL HBM
        have hLb : L ≤ 64 := by omega
        have hbxx := bel_then hbw2 hbx
        have R2' := Lib.hid (R2.out.below hbx)
        have HX : Calls Tryd.prog 16 #[.slice A5 L c5, .slice A2 p c2] wr fun e w' => ∃ A' c', e = .returned (.slice A' 32 c') ∧ w'.ownsRow wr.heap.size 5 1 (.slice A' 32 c') 32 (bs (Mac.sum lg lp)) ∧ Below wr.heap.size wr w' := msum_spec A5 L c5 A2 p c2 lg lp wr (HT.out.below hbxx) HRR.out (HR2.out.below hbxx) HBM.out HB2.out (by omega) (by omega)
        have HXX := Lib.hid HX
        clear HX HO R2
        have hcase : ¬ (i : Int) < k ∨ ((i : Int) < k ∧ ¬ (L : Int) < 64) := by omega
        clear hN hL hig
        rcases hcase with hc | ⟨hc, hc2⟩
        all_goals
          go_wp2_with fail
          refine HXX.out.mono ?_
          rintro e w6 ⟨A6, c6, rfl, hown6, hb6⟩
          have R6 := Lib.hid (Rd.of_own hown6)
          have R2'' := Lib.hid (R2'.out.below hb6)
          have hbw6 := bel_then hbxx hb6
          clear hown6 hb6
          go_wp2_with fail
          refine (ref_same A3 A6 32 c3 32 c6 _ _ w6 R2''.out R6.out (Mac.sum_isB lm lp) (Mac.sum_isB _ lp) (by omega)).mono ?_
          rintro e w7 ⟨rfl, q, rfl⟩
          have hbw7 := Below.drewN hbw6 q
          have hself : (Mac.sum lm lp == Mac.sum lg lp) = true := by rw [HLL.out]; simp
          rw [hself]
          clear hself hbw6 R6 R2''
          go_wp2_with fail
          go_ret
          exact ⟨rfl, hbw7⟩
      | succ g =>
        have hc : (i : Int) < k := by omega
        have hc2 : (L : Int) < 64 := by omega
        have hLb : L < 64 := by omega
        clear hN hL
        go_wp2_with (at_builtin; refine wpList_app _ rfl (.tmp 48) (.tmp 49) 24 rfl w2 (by exact hbx.alloc hbx' _) 5 (.int .u8 0) 1 1 Tryd.underlying24 pad_info8 rfl (by decide) _ L (bs (lm ++ List.replicate i 0)) rfl (by exact HO.out.alloc _) (some ⟨_, 0, none⟩) 1 1 [.int .u8 0] rfl (by exact rd_one _ _ _) (one_u8 _) (by unfold maxLen; omega) (by omega) ?_; intro A6 c6 w6 hown6 hb6 hg6 hat6)
        go_roundg g
        case measure => omega
        case rel => exact ⟨i + 1, L + 1, A6, c6, by omega, by have := HL.out; omega, by go_num, rfl, by rw [bs_one, ← bs_append, List.append_assoc, ← List.replicate_succ'] at hown6; exact hown6, hb6⟩
end Go.Proofs.YtjikegapljdddaaDoor
