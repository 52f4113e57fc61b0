/- The walk of container/heap.down over the alarms. -/
import Derived.Test.YtdboehogkmidbaaWhUp
namespace Go.Proofs.Ytdboehogkmidbaa
open Go.RowKit
set_option linter.unusedVariables false
set_option linter.unusedSimpArgs false
theorem down_val {a b : Nat} {q : Bool} (h : q = true ↔ a < b) : Ending.returned (.bool q) = Ending.returned (.bool (decide (a < b))) := by
  have : q = decide (a < b) := by rw [Bool.eq_iff_iff, h]; simp
  rw [this]
set_option maxRecDepth 8000 in
set_option maxHeartbeats 8000000 in
theorem hdown_spec (f i0 n : Nat) (L : Loc) (c : Nat) (es : List Mi.E) (ck : Nat) (l : List Wh.Al) (now : Int) (w : World) (h : WM w L c es ck l now) (hi : i0 ≤ 256) (hn : n ≤ l.length) (hf : n ≤ i0 + f) :
    Calls Try.prog 41 #[.iface 88 (.pointer (some ⟨L.gw, 0, none⟩)), .int .i64 i0, .int .i64 n] w fun e w' => e = .returned (.bool (decide (i0 < (Wh.down f l i0 n).2))) ∧ Wgo w L (Wh.down f l i0 n).1 now w' := by
  have hs := h.sm
  obtain ⟨gw, hgw⟩ : ∃ gw, gw = L.gw := ⟨_, rfl⟩
  rw [← hgw]
  have ML : ∀ W : World, (method 195 88 (.pointer (some ⟨gw, 0, none⟩)) "Less").run Try.prog W = .ok (61, .pointer (some ⟨gw, 0, none⟩)) W := fun W => by kernel_rfl
  have MS : ∀ W : World, (method 195 88 (.pointer (some ⟨gw, 0, none⟩)) "Swap").run Try.prog W = .ok (64, .pointer (some ⟨gw, 0, none⟩)) W := fun W => by kernel_rfl
  obtain ⟨R, hR⟩ : ∃ R, R = Wh.down f l i0 n := ⟨_, rfl⟩
  rw [← hR]
  have H := Lib.hid h
  have HR := Lib.hid hR
  have HG := Lib.hid hgw
  clear h hR hgw
  go_enter Try.func41, Try.ntmps41
  go_wp2_with fail
  go_loopg [7] (f + 1) (fun gg s7 wx => ∃ (j' f' : Nat) (L' : Loc) (c' : Nat) (es' : List Mi.E) (ck' : Nat) (l' : List Wh.Al), f' < gg ∧ n ≤ j' + f' ∧ j' ≤ 256 ∧ n ≤ l'.length ∧ l'.length ≤ 256 ∧ s7 = .int .i64 j' ∧ Aside (WM wx L' c' es' ck' l' now) ∧ Aside (Step w wx L L') ∧ Aside (Wh.down f' l' j' n = R))
  case atStart => exact ⟨i0, f, L, c, es, ck, l, by omega, hf, hi, hn, hs, rfl, H.out, Step.refl _ _, HR.out.symm⟩
  case round =>
    obtain ⟨j', f', L', c', es', ck', l', hg', hnf, hj', hn', hs', rfl, HW, HS, HU⟩ := hrel
    have hLg : L'.gw = gw := HS.out.gw.trans HG.out.symm
    obtain ⟨gk', rfl⟩ : ∃ n, gk = n + 1 := ⟨gk - 1, by omega⟩
    by_cases hA : n ≤ 2 * j' + 1
    · have hAz : (n : Int) ≤ 2 * (j' : Int) + 1 := by omega
      have HA := Lib.hid hA
      clear hA
      go_wp2_with fail
      have e : R = (l', j') := by
        rw [← HU.out]
        cases f' with
        | zero => rfl
        | succ f' => unfold Wh.down; rw [if_pos HA.out]
      go_ret
      rw [e]
      exact ⟨down_val (by simp), L', c', es', ck', HW.out, HS.out⟩
    · have hAz : ¬ (n : Int) ≤ 2 * (j' : Int) + 1 := by omega
      obtain ⟨f'', rfl⟩ : ∃ m, f' = m + 1 := ⟨f' - 1, by omega⟩
      obtain ⟨kd, hkd⟩ : ∃ kd, kd = Wh.kid l' j' n := ⟨_, rfl⟩
      have HU2 : Hid ((if ¬ Wh.lt (Wh.al l' kd) (Wh.al l' j') then (l', j') else Wh.down f'' (Wh.sw l' j' kd) kd n) = R) := Lib.hid (by
        rw [← HU.out]
        conv => rhs; unfold Wh.down
        rw [if_neg hA, ← hkd])
      have HA := Lib.hid hA
      clear hA HU
      by_cases hB : 2 * j' + 2 < n
      · have hBz : 2 * (j' : Int) + 1 + 1 < (n : Int) := by omega
        have HL := HW.out.less_wm (show 2 * j' + 2 < l'.length by omega) (show 2 * j' + 1 < l'.length by omega)
        rw [show ((2 * j' + 2 : Nat) : Int) = 2 * (j' : Int) + 1 + 1 by omega, show ((2 * j' + 1 : Nat) : Int) = 2 * (j' : Int) + 1 by omega, hLg] at HL
        by_cases hC : Wh.lt (Wh.al l' (2 * j' + 2)) (Wh.al l' (2 * j' + 1))
        · have hk : kd = 2 * j' + 2 := by rw [hkd]; unfold Wh.kid; rw [if_pos ⟨hB, hC⟩]
          rw [show decide (Wh.lt (Wh.al l' (2 * j' + 2)) (Wh.al l' (2 * j' + 1))) = true from decide_eq_true hC] at HL
          have HL := Lib.hid HL
          have hkz : (kd : Int) = 2 * (j' : Int) + 1 + 1 := by omega
          clear hC hkd
          go_wp2_with fail
          refine HL.out.mono ?_
          rintro e w1 ⟨rfl, hb1⟩
          clear HL
          go_wp2_with fail
          have hkb : kd < n := by omega
          have hjk : kd ≠ j' := by omega
          have HKZ := Lib.hid hkz
          have HL2 := (HW.out.below hb1).less_wm (show kd < l'.length by omega) (show j' < l'.length by omega)
          rw [hkz, hLg] at HL2
          have HL2 := Lib.hid HL2
          refine HL2.out.mono ?_
          rintro e w2 ⟨rfl, hb2⟩
          have hb2 := bel_then hb1 hb2
          clear hb1 HL2
          by_cases hD : Wh.lt (Wh.al l' kd) (Wh.al l' j')
          · rw [show decide (Wh.lt (Wh.al l' kd) (Wh.al l' j')) = true from decide_eq_true hD]
            have HD := Lib.hid hD
            have HSw := (HW.out.below hb2).swap_wm (show j' < l'.length by omega) (show kd < l'.length by omega)
            rw [hkz, hLg] at HSw
            have HSw := Lib.hid HSw
            clear hD hkz
            go_wp2_with fail
            refine HSw.out.mono ?_
            rintro e w3 ⟨rfl, L3, c3, es3, ck3, HW3, HS3⟩
            have HW3 := Lib.hid HW3
            have HS3 := Lib.hid ((HS.out.trans (WM.step_below hb2)).trans HS3)
            have HU3 : Hid (Wh.down f'' (Wh.sw l' j' kd) kd n = R) := Lib.hid (by
              rw [← HU2.out, if_neg (fun q => q HD.out)])
            clear hb2 HW HS HU2 HD HSw
            go_wp2_with fail
            go_roundg gk'
            case measure => omega
            case rel => exact ⟨kd, f'', L3, c3, es3, ck3, Wh.sw l' j' kd, by omega, by omega, by omega, by rw [Wh.sw_len]; omega, by rw [Wh.sw_len]; omega, by rw [HKZ.out], HW3.out, HS3.out, HU3.out⟩
          · rw [show decide (Wh.lt (Wh.al l' kd) (Wh.al l' j')) = false from decide_eq_false hD]
            have e : R = (l', j') := by rw [← HU2.out, if_pos hD]
            clear hD hkz
            go_wp2_with fail
            go_ret
            rw [e]
            exact ⟨down_val (by simp), L', c', es', ck', HW.out.below hb2, HS.out.trans (WM.step_below hb2)⟩
        · have hk : kd = 2 * j' + 1 := by rw [hkd]; unfold Wh.kid; rw [if_neg (fun q => hC q.2)]
          rw [show decide (Wh.lt (Wh.al l' (2 * j' + 2)) (Wh.al l' (2 * j' + 1))) = false from decide_eq_false hC] at HL
          have HL := Lib.hid HL
          have hkz : (kd : Int) = 2 * (j' : Int) + 1 := by omega
          clear hC hkd
          go_wp2_with fail
          refine HL.out.mono ?_
          rintro e w1 ⟨rfl, hb1⟩
          clear HL
          go_wp2_with fail
          have hkb : kd < n := by omega
          have hjk : kd ≠ j' := by omega
          have HKZ := Lib.hid hkz
          have HL2 := (HW.out.below hb1).less_wm (show kd < l'.length by omega) (show j' < l'.length by omega)
          rw [hkz, hLg] at HL2
          have HL2 := Lib.hid HL2
          refine HL2.out.mono ?_
          rintro e w2 ⟨rfl, hb2⟩
          have hb2 := bel_then hb1 hb2
          clear hb1 HL2
          by_cases hD : Wh.lt (Wh.al l' kd) (Wh.al l' j')
          · rw [show decide (Wh.lt (Wh.al l' kd) (Wh.al l' j')) = true from decide_eq_true hD]
            have HD := Lib.hid hD
            have HSw := (HW.out.below hb2).swap_wm (show j' < l'.length by omega) (show kd < l'.length by omega)
            rw [hkz, hLg] at HSw
            have HSw := Lib.hid HSw
            clear hD hkz
            go_wp2_with fail
            refine HSw.out.mono ?_
            rintro e w3 ⟨rfl, L3, c3, es3, ck3, HW3, HS3⟩
            have HW3 := Lib.hid HW3
            have HS3 := Lib.hid ((HS.out.trans (WM.step_below hb2)).trans HS3)
            have HU3 : Hid (Wh.down f'' (Wh.sw l' j' kd) kd n = R) := Lib.hid (by
              rw [← HU2.out, if_neg (fun q => q HD.out)])
            clear hb2 HW HS HU2 HD HSw
            go_wp2_with fail
            go_roundg gk'
            case measure => omega
            case rel => exact ⟨kd, f'', L3, c3, es3, ck3, Wh.sw l' j' kd, by omega, by omega, by omega, by rw [Wh.sw_len]; omega, by rw [Wh.sw_len]; omega, by rw [HKZ.out], HW3.out, HS3.out, HU3.out⟩
          · rw [show decide (Wh.lt (Wh.al l' kd) (Wh.al l' j')) = false from decide_eq_false hD]
            have e : R = (l', j') := by rw [← HU2.out, if_pos hD]
            clear hD hkz
            go_wp2_with fail
            go_ret
            rw [e]
            exact ⟨down_val (by simp), L', c', es', ck', HW.out.below hb2, HS.out.trans (WM.step_below hb2)⟩
      · have hBz : ¬ 2 * (j' : Int) + 1 + 1 < (n : Int) := by omega
        have hk : kd = 2 * j' + 1 := by rw [hkd]; unfold Wh.kid; rw [if_neg (fun q => hB q.1)]
        have hkz : (kd : Int) = 2 * (j' : Int) + 1 := by omega
        have hb1 : Below wr.heap.size wr wr := Below.refl _ _
        clear hkd
        go_wp2_with fail
        have hkb : kd < n := by omega
        have hjk : kd ≠ j' := by omega
        have HKZ := Lib.hid hkz
        have HL2 := (HW.out.below hb1).less_wm (show kd < l'.length by omega) (show j' < l'.length by omega)
        rw [hkz, hLg] at HL2
        have HL2 := Lib.hid HL2
        refine HL2.out.mono ?_
        rintro e w2 ⟨rfl, hb2⟩
        have hb2 := bel_then hb1 hb2
        clear hb1 HL2
        by_cases hD : Wh.lt (Wh.al l' kd) (Wh.al l' j')
        · rw [show decide (Wh.lt (Wh.al l' kd) (Wh.al l' j')) = true from decide_eq_true hD]
          have HD := Lib.hid hD
          have HSw := (HW.out.below hb2).swap_wm (show j' < l'.length by omega) (show kd < l'.length by omega)
          rw [hkz, hLg] at HSw
          have HSw := Lib.hid HSw
          clear hD hkz
          go_wp2_with fail
          refine HSw.out.mono ?_
          rintro e w3 ⟨rfl, L3, c3, es3, ck3, HW3, HS3⟩
          have HW3 := Lib.hid HW3
          have HS3 := Lib.hid ((HS.out.trans (WM.step_below hb2)).trans HS3)
          have HU3 : Hid (Wh.down f'' (Wh.sw l' j' kd) kd n = R) := Lib.hid (by
            rw [← HU2.out, if_neg (fun q => q HD.out)])
          clear hb2 HW HS HU2 HD HSw
          go_wp2_with fail
          go_roundg gk'
          case measure => omega
          case rel => exact ⟨kd, f'', L3, c3, es3, ck3, Wh.sw l' j' kd, by omega, by omega, by omega, by rw [Wh.sw_len]; omega, by rw [Wh.sw_len]; omega, by rw [HKZ.out], HW3.out, HS3.out, HU3.out⟩
        · rw [show decide (Wh.lt (Wh.al l' kd) (Wh.al l' j')) = false from decide_eq_false hD]
          have e : R = (l', j') := by rw [← HU2.out, if_pos hD]
          clear hD hkz
          go_wp2_with fail
          go_ret
          rw [e]
          exact ⟨down_val (by simp), L', c', es', ck', HW.out.below hb2, HS.out.trans (WM.step_below hb2)⟩
end Go.Proofs.Ytdboehogkmidbaa
