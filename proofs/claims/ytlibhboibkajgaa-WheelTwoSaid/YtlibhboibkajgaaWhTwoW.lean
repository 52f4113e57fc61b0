/- The walk of WheelTwo. -/
import Derived.Test.YtlibhboibkajgaaWhTwo
import Derived.Test.YtlibhboibkajgaaWhTwoP
import Derived.Test.YtlibhboibkajgaaWhSame
namespace Go.Proofs.Ytlibhboibkajgaa
open Go.RowKit
set_option linter.unusedVariables false
set_option linter.unusedSimpArgs false
set_option maxRecDepth 8000 in
set_option maxHeartbeats 8000000 in
theorem WheelTwo_walk (A : Option Addr) (n c : Nat) (a : List Int) (f s : Int) (num : Int) (v : Int) (w : World) (hA : Rd w 1 A n (a.map (.int .u16))) (ha : ∀ x ∈ a, 0 ≤ x ∧ x ≤ 65535) (hf : 0 ≤ f ∧ f ≤ 65535) (hs : 0 ≤ s ∧ s ≤ 65535) (hnum : 0 ≤ num ∧ num ≤ 255) (hv : 0 ≤ v ∧ v ≤ 65535) (hn : n ≤ c) (hc : c ≤ 9223372036854775807) :
    Calls Try.prog 3 #[.slice A n c, .int .u16 f, .int .u16 s, .int .u8 num, .int .u16 v] w fun e w' => e = .returned (.bool true) ∧ Below w.heap.size w w' := by
  obtain ⟨N, hmin0, hN1, hN2, _⟩ := min_named n 200
  have hmin : (if (200 : Int) < (n : Int) then (200 : Int) else (n : Int)) = (N : Int) := hmin0
  clear hmin0
  have hA' := hA.take hN1
  rw [← List.map_take] at hA'
  have ha' : ∀ x ∈ a.take N, 0 ≤ x ∧ x ≤ 65535 := fun x hx => ha x (List.mem_of_mem_take hx)
  have hl : (a.take N).length = N := by have := hA'.1; simpa using this
  generalize a.take N = q at hA' ha' hl
  obtain ⟨m, rfl⟩ := Int.eq_ofNat_of_zero_le hnum.1
  have hm : (m : Int) ≤ 255 := hnum.2
  obtain ⟨hf0, hf1⟩ := hf
  obtain ⟨hs0, hs1⟩ := hs
  obtain ⟨hv0, hv1⟩ := hv
  have HA := Lib.hid hA'
  have Ha := Lib.hid ha'
  have Hl := Lib.hid hl
  have HW := Lib.hid (awake_spec w)
  clear hA hA' ha ha' hl hnum
  go_enter Try.func3, Try.ntmps3
  go_wp2_with fail
  refine HW.out.mono ?_
  rintro ee w1 ⟨rfl, hb1⟩
  have HN := Lib.hid (wnew_wf w1)
  have HA1 := Lib.hid (HA.out.below hb1)
  have Hb1 := Lib.hid hb1
  clear HW hb1 HA
  go_wp2_with fail
  refine HN.out.mono ?_
  rintro ee w2 ⟨ga, rfl, hF⟩
  have HN2 := Lib.hid (W2.new w2 hF)
  clear hF HN
  go_wp2_with fail
  refine HN2.out.mono ?_
  rintro ee w3 ⟨gb, rfl, hF⟩
  have HF := Lib.hid hF
  clear hF HN2
  go_wp2_with fail
  go_loopg [13] (N + 1) (fun gg s13 wx => ∃ i : Nat, i ≤ N ∧ N - i < gg ∧ s13 = .int .i64 i ∧ Aside (W2 w1 ga (Wh.fill q i) 0 gb (Wh.fill q i) 0 wx))
  case atStart => exact ⟨0, by omega, by omega, rfl, HF.out⟩
  case round =>
    obtain ⟨i, hi, hg, rfl, HX⟩ := hrel
    by_cases hiN : i < N
    · have hiz : (i : Int) < (N : Int) := by omega
      obtain ⟨b, off, x, hAe, hbs, hcx, hx, hxm⟩ := Rd.int (kd := .u16) (HA1.out.below HX.out.bel) (k := i) (by rw [Hl.out]; exact hiN)
      obtain ⟨hx0, hx1⟩ := Ha.out x hxm
      have hq : q.getD i 0 = x := by rw [List.getD_eq_getElem?_getD, hx]; rfl
      have hR := Wh.fill_setR q i (by omega) (by omega) (by omega)
      rw [hq] at hR
      have HR := Lib.hid hR
      have HRd := Lib.hid (HA1.out)
      have HS := HX.out.set i (x + 1)
      rw [hR] at HS
      have HS := Lib.hid HS
      have hxe := Lib.hid hx
      subst hAe
      clear hx hxm hq HX hR
      go_wp2_with fail
      refine HS.out.mono ?_
      rintro ee w3 ⟨rfl, hF3⟩
      obtain ⟨b', off', x', hAe', hbs', hcx', hx', _⟩ := Rd.int (kd := .u16) (HRd.out.below hF3.bel) (k := i) (by rw [Hl.out]; exact hiN)
      have hxx : x' = x := by rw [hxe.out] at hx'; injection hx'; symm; assumption
      subst hxx
      injection hAe' with hAe'
      injection hAe' with q1 q2 _
      subst q1 q2
      have HS2 := hF3.symm.set i (x' + 1)
      rw [HR.out] at HS2
      have HS2 := Lib.hid HS2
      clear hF3 HS hx' hcx hbs
      go_wp2_with fail
      refine HS2.out.mono ?_
      rintro ee w4 ⟨rfl, hF4⟩
      have HF4 := Lib.hid hF4.symm
      clear hF4 HS2
      go_wp2_with fail
      go_roundg (gk - 1)
      case measure => omega
      case rel => exact ⟨i + 1, by omega, by omega, by go_num, HF4.out⟩
    · obtain rfl : i = N := by omega
      have HX1 := Lib.hid HX.out
      clear HX HF hiN
      have hl0 : 0 ≤ (v + 1) ∧ (v + 1) ≤ 65536 := by omega
      by_cases hmN : m < i
      case' pos =>
        have hmz : (m : Int) < (i : Int) := by omega
        have e1 := Wh.setR_some (t := 70000) (Wh.fill_some (q := q) hmN) (by omega) (by omega) (by omega) (by omega)
        have e2 := Wh.setR_some (t := v + 1) (Wh.set_isSome (Wh.fill_law q i).1 m 70000) (by omega) (by omega) (by omega) (by omega)
        have e3 := Wh.setR_some (t := v + 1) (Wh.fill_some (q := q) hmN) (by omega) (by omega) (by omega) (by omega)
        have HE2 := Lib.hid e2
        have HE3 := Lib.hid e3
        have HS := HX1.out.set m 70000
        rw [e1] at HS
        have HS := Lib.hid HS
        clear e1 e2 e3 HX1
        go_wp2_with fail
        refine HS.out.mono ?_
        rintro ee w4 ⟨rfl, hF4⟩
        have HS2 := hF4.set m (v + 1)
        rw [HE2.out] at HS2
        have HS2 := Lib.hid HS2
        clear hF4 HS
        go_wp2_with fail
        refine HS2.out.mono ?_
        rintro ee w5 ⟨rfl, hF5⟩
        have HS3 := hF5.symm.set m (v + 1)
        rw [HE3.out] at HS3
        have HS3 := Lib.hid HS3
        clear hF5 HS2
        go_wp2_with fail
        refine HS3.out.mono ?_
        rintro ee w6 ⟨rfl, hF6⟩
        have HX1 : Hid (W2 w1 ga (Wh.anew2 q i m (v + 1)) 0 gb (Wh.anew q i m (v + 1)) 0 w6) := Lib.hid (by
          unfold Wh.anew2 Wh.anew
          rw [if_pos hmN, if_pos hmN]
          exact hF6.symm)
        clear hF6 HS3 HE2 HE3
        skip
      case' neg =>
        have hmz : ¬ (m : Int) < (i : Int) := by omega
        have HX2 : Hid (W2 w1 ga (Wh.anew2 q i m (v + 1)) 0 gb (Wh.anew q i m (v + 1)) 0 wr) := Lib.hid (by
          unfold Wh.anew2 Wh.anew
          rw [if_neg hmN, if_neg hmN]
          exact HX1.out)
        have HX1 := HX2
        clear HX2
      all_goals
        have hT1 := HX1.out.tick (t := f) (by omega) (by omega)
        obtain ⟨hP1, hP2⟩ := Wh.tick_two_one (Wh.anew2_wok q i m (v + 1)) (Wh.anew_wok q i m (v + 1)) (Wh.anew_mem q i m (v + 1)) (f := f) (t := f + s) (by omega)
        have hlen0 := Nat.le_trans (Wh.tick_len (Wh.anew_wok q i m (v + 1)) (f + s)) HX1.out.sm.2
        obtain ⟨r1, hr1⟩ : ∃ r, r = Wh.tickL ((Wh.anew2 q i m (v + 1)).length + 1) (Wh.anew2 q i m (v + 1)) f := ⟨_, rfl⟩
        rw [← hr1] at hT1 hP1 hP2
        obtain ⟨r2, hr2⟩ : ∃ r, r = Wh.tickL (r1.2.length + 1) r1.2 (f + s) := ⟨_, rfl⟩
        rw [← hr2] at hP1 hP2
        obtain ⟨r3, hr3⟩ : ∃ r, r = Wh.tickL ((Wh.anew q i m (v + 1)).length + 1) (Wh.anew q i m (v + 1)) (f + s) := ⟨_, rfl⟩
        rw [← hr3] at hP1 hP2 hlen0
        rw [← hP1, List.length_append] at hlen0
        have HR2 := Lib.hid hr2
        have HR3 := Lib.hid hr3
        have HT1 := Lib.hid hT1
        have HP1 := Lib.hid hP1
        have HP2 := Lib.hid hP2
        clear hr1 hr2 hr3 hT1 hP1 hP2 HX1
        go_wp2_with fail
        refine HT1.out.mono ?_
        rintro ee w7 ⟨B1, d1, rfl, hO1, hF7, _⟩
        have hT2 := hF7.tick (t := f + s) (by omega) (by omega)
        rw [← HR2.out] at hT2
        have HT2 := Lib.hid hT2
        have HO1 := Lib.hid hO1
        have HS7 := Lib.hid hF7.bel.size
        clear hT2 hO1 hF7 HT1
        go_wp2_with fail
        refine HT2.out.mono ?_
        rintro ee w8 ⟨B2, d2, rfl, hO2, hF8, hk8⟩
        have hT3 := hF8.symm.tick (t := f + s) (by omega) (by omega)
        rw [← HR3.out] at hT3
        have HT3 := Lib.hid hT3
        have HO2 := Lib.hid hO2
        have HO1' := Lib.hid (hk8 _ _ _ _ HO1.out)
        clear hT3 hO2 hF8 HT2 hk8 HO1
        go_wp2_with fail
        refine HT3.out.mono ?_
        rintro ee w9 ⟨B3, d3, rfl, hO3, hF9, hk9⟩
        have HRd1 := Lib.hid (Rd.of_own (hk9 _ _ _ _ HO1'.out))
        have HRd2 := Lib.hid (Rd.of_own (hk9 _ _ _ _ HO2.out))
        have HRd3 := Lib.hid (Rd.of_own hO3)
        have hb0 := hF9.bel
        have hlen3 : r3.1.length = r1.1.length + r2.1.length := by rw [← HP1.out, List.length_append]
        rw [← HP1.out, List.length_append] at hO3
        have HRd3 := Lib.hid (Rd.of_own hO3)
        rw [hlen3]
        obtain ⟨R1, hR1⟩ : ∃ R, R = r1.1.length := ⟨_, rfl⟩
        obtain ⟨R2, hR2⟩ : ∃ R, R = r2.1.length := ⟨_, rfl⟩
        rw [← hR1, ← hR2] at HRd3 hlen0 ⊢
        rw [← hR1] at HRd1
        rw [← hR2] at HRd2
        have HF9 := Lib.hid hF9
        have hS9 := Lib.hid (Nat.le_refl w9.heap.size)
        clear hlen3 hR1 hR2 hb0 hF9 hO3 hk9 HT3 HO1' HO2
        have HAB : Hid (Below w9.heap.size w9 w9) := Lib.hid (Below.refl _ _)
        go_wp2_with (first
          | (at_builtin; refine wpList_app0 _ rfl (.tmp 110) (.tmp 111) 29 rfl w9 HAB.out 3 (.int .i64 0) 1 8 (by kernel_rfl) infoI rfl (by decide) rfl B1 R1 d1 (ks r1.1) rfl HRd1.out (one_ks _) (by unfold maxLen; omega) (by omega) ?_; intro C1 c1 w10 hown1 hbel1 hg1 hat1; have HO10 := Lib.hid hown1; have HB10 := Lib.hid hbel1; have HRd2' := Lib.hid (HRd2.out.below hbel1); clear hown1 hbel1 hg1 hat1)
          | (at_builtin; refine wpList_app _ rfl (.tmp 112) (.tmp 113) 29 rfl w9 HB10.out 3 (.int .i64 0) 1 8 (by kernel_rfl) infoI rfl (by decide) (.slice C1 R1 c1) R1 (ks r1.1) rfl HO10.out B2 R2 d2 (ks r2.1) rfl HRd2'.out (one_ks _) (by unfold maxLen; omega) (by omega) ?_; intro C2 c2 w11 hown2 hbel2 hg2 hat2; have HO11 := Lib.hid hown2; have HB11 := Lib.hid hbel2; clear hown2 hbel2 hg2 hat2)
          | fail)
        have HSm := Lib.hid (isame_spec C2 (R1 + R2) c2 B3 d3 ((r3.1).map (·.k)) w11 (by have h := Rd.of_own HO11.out; unfold ks at h; rw [← List.map_append, HP1.out] at h; rw [List.map_map]; exact h) (by have h := HRd3.out.below HB11.out; unfold ks at h; rw [HP1.out] at h; rw [List.map_map]; exact h) (by omega))
        refine HSm.out.mono ?_
        rintro ee w12 ⟨rfl, hb12⟩
        have HF12 := Lib.hid ((HF9.out.below HB11.out).below hb12)
        have HW1 := HF12.out.symm.waits
        have HW2 := HF12.out.waits
        rw [HP2.out] at HW1
        have HW1 := Lib.hid HW1
        have HW2 := Lib.hid HW2
        clear HSm hb12
        go_wp2_with fail
        refine HW1.out.mono ?_
        rintro ee w13 ⟨rfl, rfl⟩
        go_wp2_with fail
        refine HW2.out.mono ?_
        rintro ee w14 ⟨rfl, rfl⟩
        go_wp2_with fail
        go_ret
        exact ⟨rfl, bel_then Hb1.out HF12.out.bel⟩
end Go.Proofs.Ytlibhboibkajgaa
