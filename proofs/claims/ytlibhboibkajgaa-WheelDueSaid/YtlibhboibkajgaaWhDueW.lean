/- The walk of WheelDue (under way). -/
import Derived.Test.YtlibhboibkajgaaWhDueP
import Derived.Test.YtlibhboibkajgaaWhDropW
import Derived.Deep.QuietTactic
import Derived.BigQuiet
import Derived.IntWalk
namespace Go.Proofs.Ytlibhboibkajgaa
open Go.RowKit
set_option linter.unusedVariables false
set_option linter.unusedSimpArgs false
theorem Rd.ks2 {w : World} {A : Option Addr} {n : Nat} {l : List Wh.Al} (h : Rd w 1 A n (Go.Proofs.Ytlibhboibkajgaa.ks l)) {k : Nat} (hk : k < l.length) :
    ∃ b off, A = some ⟨b, off, none⟩ ∧ b < w.heap.size ∧ w.cell? ⟨b, off + k, none⟩ = some (.int .i64 (Wh.al l k).k) := by
  have hn := h.1
  unfold Go.Proofs.Ytlibhboibkajgaa.ks at h hn
  simp only [List.length_map, Nat.mul_one] at hn
  obtain ⟨b, off, e, hb, hc⟩ := h.2 (by omega)
  exact ⟨b, off, e, hb, hc k _ (by rw [Wh.al_lt hk]; simp [hk])⟩
set_option maxRecDepth 8000 in
set_option maxHeartbeats 16000000 in
theorem WheelDue_walk (A : Option Addr) (n c : Nat) (a : List Int) (B : Option Addr) (m e : Nat) (tk : List Int) (w : World) (hA : Rd w 1 A n (a.map (.int .u16))) (ha : ∀ x ∈ a, 0 ≤ x ∧ x ≤ 65535) (hB : Rd w 1 B m (tk.map (.int .u16))) (hb : ∀ x ∈ tk, 0 ≤ x ∧ x ≤ 65535) (hn : n ≤ c) (hc : c ≤ 9223372036854775807) (hm : m ≤ 9223372036854775807) :
    Calls Try.prog 4 #[.slice A n c, .slice B m e] w fun e w' => e = .returned (.bool true) ∧ Below w.heap.size w w' := by
  obtain ⟨N, hmin0, hN1, hN2, _⟩ := min_named n 200
  have hmin : (if (200 : Int) < (n : Int) then (200 : Int) else (n : Int)) = (N : Int) := hmin0
  clear hmin0
  have hA' := hA.take hN1
  rw [← List.map_take] at hA'
  have ha' : ∀ x ∈ a.take N, 0 ≤ x ∧ x ≤ 65535 := fun x hx => ha x (List.mem_of_mem_take hx)
  have hl : (a.take N).length = N := by have := hA'.1; simpa using this
  have hlB : tk.length = m := by have := hB.1; simpa using this
  generalize a.take N = q at hA' ha' hl
  have HA := Lib.hid hA'
  have HB := Lib.hid hB
  have Ha := Lib.hid ha'
  have Hb := Lib.hid hb
  have Hl := Lib.hid hl
  have HlB := Lib.hid hlB
  have HW := Lib.hid (awake_spec w)
  clear hA hA' ha ha' hl hB hlB hb
  go_enter Try.func4, Try.ntmps4
  go_wp2_with fail
  refine HW.out.mono ?_
  rintro ee w1 ⟨rfl, hb1⟩
  have HN := Lib.hid (wnew_wf w1)
  have HA1 := Lib.hid (HA.out.below hb1)
  have HB1 := Lib.hid (HB.out.below hb1)
  have Hb1 := Lib.hid hb1
  clear HW hb1 HA HB
  go_wp2_with fail
  refine HN.out.mono ?_
  rintro ee w2 ⟨gw, rfl, hF⟩
  have HF := Lib.hid hF
  clear hF HN
  go_wp2_with fail
  go_loopg [6] (N + 1) (fun gg s6 wx => ∃ i : Nat, i ≤ N ∧ N - i < gg ∧ s6 = .int .i64 i ∧ Aside (WF w1 gw (Wh.fill q i) 0 wx))
  case atStart => exact ⟨0, by omega, by omega, rfl, HF.out⟩
  case round =>
    obtain ⟨i, hi, hg, rfl, HX⟩ := hrel
    by_cases hiN : i < N
    · have hiz : (i : Int) < (N : Int) := by omega
      obtain ⟨b, off, x, rfl, hbs, hcx, hx, hxm⟩ := Rd.int (kd := .u16) (HA1.out.below HX.out.bel) (k := i) (by rw [Hl.out]; exact hiN)
      obtain ⟨hx0, hx1⟩ := Ha.out x hxm
      have hq : q.getD i 0 = x := by rw [List.getD_eq_getElem?_getD, hx]; rfl
      have HS := HX.out.set i (x + 1)
      rw [← hq, Wh.fill_setR q i (by omega) (by omega) (by omega), hq] at HS
      have HS := Lib.hid HS
      clear hx hxm hq HX
      go_wp2_with fail
      refine HS.out.mono ?_
      rintro ee w3 ⟨rfl, hF3⟩
      have HF3 := Lib.hid hF3
      clear hF3 HS
      go_wp2_with fail
      go_roundg (gk - 1)
      case measure => omega
      case rel => exact ⟨i + 1, by omega, by omega, by go_num, HF3.out⟩
    · obtain rfl : i = N := by omega
      have HX1 := Lib.hid HX.out
      have HI := Lib.hid (Wh.DInv.start q i (fun x hx => (Ha.out x hx).1))
      clear HX HF hiN
      go_wp2_with fail
      go_loopg [7, 8, 9] (m + 1) (fun gg s7 s8 s9 wx => ∃ (k seen : Nat) (now : Int) (l : List Wh.Al), k ≤ m ∧ m - k < gg ∧ 0 ≤ now ∧ now ≤ 65535 * k ∧ k ≤ 50 ∧ seen ≤ i ∧ s7 = .int .i64 now ∧ s8 = .int .i64 seen ∧ s9 = .int .i64 k ∧ Aside (WF w1 gw l now wx) ∧ Aside (Wh.DInv q i l now seen))
      case atStart => exact ⟨0, 0, 0, _, by omega, by omega, by omega, by omega, by omega, by omega, rfl, rfl, rfl, HX1.out, HI.out⟩
      case round =>
        obtain ⟨k, seen, now, l, hk, hg2, hn0, hnk, hk50, hse, rfl, rfl, rfl, HX3, HD3⟩ := hrel
        obtain ⟨G2, rfl⟩ : ∃ G2, gk = G2 + 1 := ⟨gk - 1, by omega⟩
        by_cases hkm : k < m
        · have hkmz : (k : Int) < (m : Int) := by omega
          by_cases hk5 : k < 50
          · have hk5z : (k : Int) < 50 := by omega
            obtain ⟨b, off, y, rfl, hbs, hcy, hy, hym⟩ := Rd.int (kd := .u16) (HB1.out.below HX3.out.bel) (k := k) (by rw [HlB.out]; exact hkm)
            obtain ⟨hy0, hy1⟩ := Hb.out y hym
            have HT := HX3.out.tick (t := now + y) (by omega) (by omega)
            obtain ⟨dD, dS, dM⟩ := HD3.out.tick (t := now + y) (by omega)
            obtain ⟨r, hr⟩ : ∃ r, r = Wh.tickL (l.length + 1) l (now + y) := ⟨_, rfl⟩
            rw [← hr] at HT dD dS dM
            have HT := Lib.hid HT
            have HDD := Lib.hid dD
            have HDS := Lib.hid dS
            have HDM := Lib.hid dM
            clear hr dD dS dM hy hym HX1 HI
            go_wp2_with fail
            refine HT.out.mono ?_
            rintro ee w5 ⟨B5, d5, rfl, hR5, _, hF5, _⟩
            obtain ⟨R1, hR1⟩ : ∃ R1, R1 = r.1.length := ⟨_, rfl⟩
            rw [← hR1] at hR5 ⊢
            have hlen := HDD.out.len
            rw [← hR1] at hlen
            have HR5 := Lib.hid hR5
            have HR1 := Lib.hid hR1
            have HWt := Lib.hid hF5.waits
            have HF5 := Lib.hid hF5
            have hR1b : R1 ≤ 200 := by omega
            have HLen := Lib.hid hlen
            clear HT hR5 hF5 hR1 hlen
            go_wp2_with fail
            go_loopg [13] (R1 + 1) (fun gg s13 wx => ∃ p : Nat, p ≤ R1 ∧ R1 - p < gg ∧ s13 = .int .i64 p ∧ Aside (Below w5.heap.size w5 wx))
            case atStart => exact ⟨0, by omega, by omega, rfl, Below.refl _ _⟩
            case round =>
              obtain ⟨p, hp, hg5, rfl, HY⟩ := hrel
              by_cases hpR : p < R1
              · have hpz : (p : Int) < (R1 : Int) := by omega
                obtain ⟨b5, o5, hB5, hb5, hc5⟩ := Rd.ks2 (show Rd _ 1 B5 r.1.length (ks r.1) by rw [← HR1.out]; exact HR5.out.below HY.out) (k := p) (by rw [← HR1.out]; exact hpR)
                obtain ⟨jj, hjj, hxe, hl1, hl2⟩ := HDM.out (Wh.al r.1 p) (Wh.al_mem (by rw [← HR1.out]; exact hpR))
                obtain ⟨b6, o6, z, hA6, hb6, hc6, hz, hzm⟩ := Rd.int (kd := .u16) (HA1.out.below (bel_then HF5.out.bel HY.out)) (k := jj) (by rw [Hl.out]; exact hjj)
                obtain ⟨hz0, hz1⟩ := Ha.out z hzm
                have hq : q.getD jj 0 = z := by rw [List.getD_eq_getElem?_getD, hz]; rfl
                rw [hq] at hl1 hl2 hxe
                rw [hxe] at hc5
                simp only at hc5
                have hjjz : (jj : Int) < (i : Int) := by omega
                subst hB5 hA6
                by_cases hp0 : p = 0
                · subst hp0
                  have HXE := Lib.hid hxe
                  simp only [Nat.add_zero] at hc5
                  clear hxe hz hzm hq
                  have hpz0 : (0 : Int) < (R1 : Int) := by omega
                  rw [show ((0 : Nat) : Int) = 0 from rfl]
                  go_wp2_with fail
                  go_roundg (gk - 1)
                  case measure => omega
                  case rel => exact ⟨1, by omega, by omega, rfl, HY.out⟩
                · obtain ⟨p', rfl⟩ : ∃ p', p = p' + 1 := ⟨p - 1, by omega⟩
                  obtain ⟨b7, o7, hB7, hb7, hc7⟩ := Rd.ks2 (show Rd _ 1 _ r.1.length (ks r.1) by rw [← HR1.out]; exact HR5.out.below HY.out) (k := p') (by rw [← HR1.out]; omega)
                  obtain ⟨j2, hj2, hxe2, hl3, hl4⟩ := HDM.out (Wh.al r.1 p') (Wh.al_mem (by rw [← HR1.out]; omega))
                  obtain ⟨b8, o8, z2, hA8, hb8, hc8, hz2, hzm2⟩ := Rd.int (kd := .u16) (HA1.out.below (bel_then HF5.out.bel HY.out)) (k := j2) (by rw [Hl.out]; exact hj2)
                  obtain ⟨hz20, hz21⟩ := Ha.out z2 hzm2
                  have hq2 : q.getD j2 0 = z2 := by rw [List.getD_eq_getElem?_getD, hz2]; rfl
                  rw [hq2] at hl3 hl4 hxe2
                  rw [hxe2] at hc7
                  simp only at hc7
                  have hj2z : (j2 : Int) < (i : Int) := by omega
                  have hlt := Wh.pair_lt HDS.out (k := p') (by rw [← HR1.out]; exact hpR)
                  rw [hxe, hxe2] at hlt
                  unfold Wh.lt at hlt
                  simp only at hlt
                  injection hB7 with hB7
                  injection hB7 with e1 e2 _
                  subst e1 e2
                  injection hA8 with hA8
                  injection hA8 with e1 e2 _
                  subst e1 e2
                  have hc5' : wr.cell? ⟨b5, o5 + (p' + 1), none⟩ = some (.int .i64 jj) := hc5
                  have hpz' : (p' : Int) + 1 < (R1 : Int) := by omega
                  have hpz2 : (p' : Int) < (R1 : Int) := by omega
                  clear hxe hz hzm hq hxe2 hz2 hzm2 hq2
                  have hw1 : IntKind.i64.wrap ((p' : Int) + 1 - 1) = (p' : Int) := by rw [show (p' : Int) + 1 - 1 = (p' : Int) by omega]; exact IntWalk.i64_in _ (by omega)
                  rcases hlt with hlt | ⟨he1, hlt⟩
                  · have hg1 : decide (z + 1 < z2 + 1) = false := decide_eq_false (by omega)
                    have hg2 : ((z2 + 1 == z + 1) = false) := by simp; omega
                    have hg3 : decide (z < z2) = false := decide_eq_false (by omega)
                    have hg4 : ((z2 == z) = false) := by simp; omega
                    have hg5 : ¬ z2 = z := by omega
                    have hg6 : ¬ z < z2 := by omega
                    have hg7 : decide (z2 = z) = false := decide_eq_false hg5
                    go_wp2_with fail
                    go_quiet (fail)
                    go_wp2_with fail
                    go_roundg (gk - 1)
                    case measure => omega
                    case rel => exact ⟨p' + 2, by omega, by omega, by go_num, below_drewN HY.out _⟩
                  · obtain rfl : z2 = z := by omega
                    have hg1 : decide (z2 + 1 < z2 + 1) = false := decide_eq_false (by omega)
                    have hg2 : ((z2 + 1 == z2 + 1) = true) := by simp
                    have hg3 : decide ((jj : Int) ≤ (j2 : Int)) = false := decide_eq_false (by omega)
                    go_wp2_with fail
                    go_quiet (fail)
                    go_wp2_with fail
                    go_roundg (gk - 1)
                    case measure => omega
                    case rel => exact ⟨p' + 2, by omega, by omega, by go_num, below_drewN HY.out _⟩
              · obtain rfl : p = R1 := by omega
                have HFx := Lib.hid (HF5.out.below HY.out)
                have HWx := Lib.hid HFx.out.waits
                clear hpR HWt
                go_wp2_with fail
                refine HWx.out.mono ?_
                rintro ee w7 ⟨rfl, rfl⟩
                have hlz : (i : Int) - ((seen : Int) + (p : Int)) = (r.2.length : Int) := by have := HLen.out; omega
                clear HWx
                go_wp2_with fail
                go_roundg G2
                case measure => omega
                case rel => exact ⟨k + 1, seen + p, now + y, r.2, by omega, by omega, by omega, by omega, by omega, by have := HLen.out; omega, rfl, by go_num, by go_num, HFx.out, by rw [HR1.out]; exact HDD.out⟩
          · have hk5z : ¬ (k : Int) < 50 := by omega
            clear hg2
            go_wp2_with fail
            go_loopg [16] (i + 1) (fun gg s16 wx => ∃ j : Nat, j ≤ i ∧ i - j < gg ∧ s16 = .int .i64 j ∧ Aside (WF w1 gw l now wx))
            case atStart => exact ⟨0, by omega, by omega, rfl, HX3.out⟩
            case round =>
              obtain ⟨j, hj, hg4, rfl, HZ⟩ := hrel
              by_cases hji : j < i
              · have hjz : (j : Int) < (i : Int) := by omega
                obtain ⟨b, off, x, hAe, hbs, hcx, hx, hxm⟩ := Rd.int (kd := .u16) (HA1.out.below HZ.out.bel) (k := j) (by rw [Hl.out]; exact hji)
                obtain ⟨hx0, hx1⟩ := Ha.out x hxm
                have hq : q.getD j 0 = x := by rw [List.getD_eq_getElem?_getD, hx]; rfl
                have hWn := HZ.out.when j
                obtain ⟨d1, d2⟩ := HD3.out.when hji
                rw [hq] at d1 d2
                have hWn2 : Calls Try.prog 13 #[.pointer (some ⟨gw, 0, none⟩), .int .i64 j] wr fun e w' => e = .returned (.tuple #[.int .i64 (if now < x + 1 then x + 1 else 0), .bool (decide (now < x + 1))]) ∧ wr = w' := by
                  by_cases hd : now < x + 1
                  · obtain ⟨p, e1, e2⟩ := d1 hd
                    rw [e1] at hWn
                    rw [if_pos hd, decide_eq_true hd, ← e2]
                    exact hWn
                  · rw [d2 hd] at hWn
                    rw [if_neg hd, decide_eq_false hd]
                    exact hWn
                have HWn := Lib.hid hWn2
                subst hAe
                clear hx hxm hq hWn hWn2 d1 d2
                by_cases hd : now < x + 1
                · rw [if_pos hd, decide_eq_true hd] at HWn
                  go_wp2_with fail
                  refine HWn.out.mono ?_
                  rintro ee w7 ⟨rfl, rfl⟩
                  clear HWn
                  go_wp2_with fail
                  go_roundg (gk - 1)
                  case measure => omega
                  case rel => exact ⟨j + 1, by omega, by omega, by go_num, HZ.out⟩
                · rw [if_neg hd, decide_eq_false hd] at HWn
                  go_wp2_with fail
                  refine HWn.out.mono ?_
                  rintro ee w7 ⟨rfl, rfl⟩
                  clear HWn
                  go_wp2_with fail
                  go_roundg (gk - 1)
                  case measure => omega
                  case rel => exact ⟨j + 1, by omega, by omega, by go_num, HZ.out⟩
              · obtain rfl : j = i := by omega
                clear hji
                go_wp2_with fail
                go_ret
                exact ⟨rfl, bel_then Hb1.out HZ.out.bel⟩
        · have hkmz : ¬ (k : Int) < (m : Int) := by omega
          clear hg2
          go_wp2_with fail
          go_loopg [16] (i + 1) (fun gg s16 wx => ∃ j : Nat, j ≤ i ∧ i - j < gg ∧ s16 = .int .i64 j ∧ Aside (WF w1 gw l now wx))
          case atStart => exact ⟨0, by omega, by omega, rfl, HX3.out⟩
          case round =>
            obtain ⟨j, hj, hg4, rfl, HZ⟩ := hrel
            by_cases hji : j < i
            · have hjz : (j : Int) < (i : Int) := by omega
              obtain ⟨b, off, x, hAe, hbs, hcx, hx, hxm⟩ := Rd.int (kd := .u16) (HA1.out.below HZ.out.bel) (k := j) (by rw [Hl.out]; exact hji)
              obtain ⟨hx0, hx1⟩ := Ha.out x hxm
              have hq : q.getD j 0 = x := by rw [List.getD_eq_getElem?_getD, hx]; rfl
              have hWn := HZ.out.when j
              obtain ⟨d1, d2⟩ := HD3.out.when hji
              rw [hq] at d1 d2
              have hWn2 : Calls Try.prog 13 #[.pointer (some ⟨gw, 0, none⟩), .int .i64 j] wr fun e w' => e = .returned (.tuple #[.int .i64 (if now < x + 1 then x + 1 else 0), .bool (decide (now < x + 1))]) ∧ wr = w' := by
                by_cases hd : now < x + 1
                · obtain ⟨p, e1, e2⟩ := d1 hd
                  rw [e1] at hWn
                  rw [if_pos hd, decide_eq_true hd, ← e2]
                  exact hWn
                · rw [d2 hd] at hWn
                  rw [if_neg hd, decide_eq_false hd]
                  exact hWn
              have HWn := Lib.hid hWn2
              subst hAe
              clear hx hxm hq hWn hWn2 d1 d2
              by_cases hd : now < x + 1
              · rw [if_pos hd, decide_eq_true hd] at HWn
                go_wp2_with fail
                refine HWn.out.mono ?_
                rintro ee w7 ⟨rfl, rfl⟩
                clear HWn
                go_wp2_with fail
                go_roundg (gk - 1)
                case measure => omega
                case rel => exact ⟨j + 1, by omega, by omega, by go_num, HZ.out⟩
              · rw [if_neg hd, decide_eq_false hd] at HWn
                go_wp2_with fail
                refine HWn.out.mono ?_
                rintro ee w7 ⟨rfl, rfl⟩
                clear HWn
                go_wp2_with fail
                go_roundg (gk - 1)
                case measure => omega
                case rel => exact ⟨j + 1, by omega, by omega, by go_num, HZ.out⟩
            · obtain rfl : j = i := by omega
              clear hji
              go_wp2_with fail
              go_ret
              exact ⟨rfl, bel_then Hb1.out HZ.out.bel⟩
end Go.Proofs.Ytlibhboibkajgaa
