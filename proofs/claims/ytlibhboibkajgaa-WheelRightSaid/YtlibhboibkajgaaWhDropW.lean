/- The walk of WheelDrops. -/
import Derived.Test.YtlibhboibkajgaaWhDropP
namespace Go.Proofs.Ytlibhboibkajgaa
open Go.RowKit
set_option linter.unusedVariables false
set_option linter.unusedSimpArgs false
theorem WF.drop_in {w0 w : World} {gw N i : Nat} {q : List Int} {d : List Bool} (h : WF w0 gw (Wh.drops q d N i) 0 w) (hi : i < N) :
    Calls Try.prog 14 #[.pointer (some ⟨gw, 0, none⟩), .int .i64 i] w fun e w' => e = .returned (.int .i64 0) ∧ WF w0 gw (Wh.dropAt (Wh.drops q d N i) i) 0 w' := by
  obtain ⟨h1, h2, h3⟩ := Wh.drops_law q d N i (by omega)
  have hin : (⟨i, q.getD i 0 + 1⟩ : Wh.Al) ∈ Wh.drops q d N i := (h3 _).2 ⟨i, hi, rfl, Or.inl (Nat.le_refl _)⟩
  have hp := Wh.place_of_mem (k := (i : Int)) hin rfl
  have hD := h.drop i
  unfold Wh.dropAt
  cases hk : Wh.place (Wh.drops q d N i) i with
  | none => rw [hk] at hp; cases hp
  | some p => rw [hk] at hD; exact hD
theorem WF.drop_out {w0 w : World} {gw : Nat} {l : List Wh.Al} {k : Int} (h : WF w0 gw (Wh.dropAt l k) 0 w) (hl : Wh.Wok l) :
    Calls Try.prog 14 #[.pointer (some ⟨gw, 0, none⟩), .int .i64 k] w fun e w' => e = .returned (.int .i64 9) ∧ WF w0 gw (Wh.dropAt l k) 0 w' := by
  have hD := h.drop k
  rw [Wh.drop_twice hl k] at hD
  exact hD
theorem Rd.bool {w : World} {A : Option Addr} {n : Nat} {l : List Bool} (h : Rd w 1 A n (l.map Value.bool)) {k : Nat} (hk : k < l.length) :
    ∃ b off, A = some ⟨b, off, none⟩ ∧ b < w.heap.size ∧ w.cell? ⟨b, off + k, none⟩ = some (.bool (l.getD k false)) := by
  have hn := h.1
  simp only [List.length_map, Nat.mul_one] at hn
  obtain ⟨b, off, e, hb, hc⟩ := h.2 (by omega)
  refine ⟨b, off, e, hb, hc k _ ?_⟩
  simp [hk]
theorem Rd.ks {w : World} {A : Option Addr} {n : Nat} {l : List Wh.Al} (h : Rd w 1 A n (ks l)) {k : Nat} (hk : k < l.length) :
    ∃ b off x, A = some ⟨b, off, none⟩ ∧ b < w.heap.size ∧ w.cell? ⟨b, off + k, none⟩ = some (.int .i64 x.k) ∧ x ∈ l := by
  have hn := h.1
  unfold Go.Proofs.Ytlibhboibkajgaa.ks at h hn
  simp only [List.length_map, Nat.mul_one] at hn
  obtain ⟨b, off, e, hb, hc⟩ := h.2 (by omega)
  exact ⟨b, off, l[k], e, hb, hc k _ (by simp [hk]), List.getElem_mem hk⟩
set_option maxHeartbeats 8000000 in
theorem WheelDrops_walk (A : Option Addr) (n c : Nat) (a : List Int) (B : Option Addr) (m e : Nat) (d : List Bool) (w : World) (hA : Rd w 1 A n (a.map (.int .u16))) (ha : ∀ x ∈ a, 0 ≤ x ∧ x ≤ 65535) (hB : Rd w 1 B m (d.map Value.bool)) (hn : n ≤ c) (hc : c ≤ 9223372036854775807) (hm : m ≤ 9223372036854775807) :
    Calls Try.prog 5 #[.slice A n c, .slice B m e] w fun e w' => e = .returned (.bool true) ∧ Below w.heap.size w w' := by
  obtain ⟨N, hmin0, hN1, hN2, _⟩ := min_named n 200
  have hmin : (if (200 : Int) < (n : Int) then (200 : Int) else (n : Int)) = (N : Int) := hmin0
  clear hmin0
  have hA' := hA.take hN1
  rw [← List.map_take] at hA'
  have ha' : ∀ x ∈ a.take N, 0 ≤ x ∧ x ≤ 65535 := fun x hx => ha x (List.mem_of_mem_take hx)
  have hl : (a.take N).length = N := by have := hA'.1; simpa using this
  have hlB : d.length = m := by have := hB.1; simpa using this
  generalize a.take N = q at hA' ha' hl
  have HA := Lib.hid hA'
  have HB := Lib.hid hB
  have Ha := Lib.hid ha'
  have Hl := Lib.hid hl
  have HlB := Lib.hid hlB
  have HW := Lib.hid (awake_spec w)
  clear hA hA' ha ha' hl hB hlB
  go_enter Try.func5, Try.ntmps5
  go_wp2_with fail
  refine HW.out.mono ?_
  rintro ee w1 ⟨rfl, hb1⟩
  have HN := Lib.hid (wnew_wf w1)
  have HA1 := Lib.hid (HA.out.below hb1)
  have HB1 := Lib.hid (HB.out.below hb1)
  have Hb1 := Lib.hid hb1
  clear HW hb1 HA HB
  go_wp2_with fail
  refine HN.out.mono ?_
  rintro ee w2 ⟨gw, rfl, hF⟩
  have HF := Lib.hid hF
  clear hF HN
  go_wp2_with fail
  go_loopg [7] (N + 1) (fun gg s7 wx => ∃ i : Nat, i ≤ N ∧ N - i < gg ∧ s7 = .int .i64 i ∧ Aside (WF w1 gw (Wh.fill q i) 0 wx))
  case atStart => exact ⟨0, by omega, by omega, rfl, HF.out⟩
  case round =>
    obtain ⟨i, hi, hg, rfl, HX⟩ := hrel
    by_cases hiN : i < N
    · have hiz : (i : Int) < (N : Int) := by omega
      obtain ⟨b, off, x, rfl, hbs, hcx, hx, hxm⟩ := Rd.int (kd := .u16) (HA1.out.below HX.out.bel) (k := i) (by rw [Hl.out]; exact hiN)
      obtain ⟨hx0, hx1⟩ := Ha.out x hxm
      have hq : q.getD i 0 = x := by rw [List.getD_eq_getElem?_getD, hx]; rfl
      have HS := HX.out.set i (x + 1)
      rw [← hq, Wh.fill_setR q i (by omega) (by omega) (by omega), hq] at HS
      have HS := Lib.hid HS
      clear hx hxm hq HX
      go_wp2_with fail
      refine HS.out.mono ?_
      rintro ee w3 ⟨rfl, hF3⟩
      have HF3 := Lib.hid hF3
      clear hF3 HS
      go_wp2_with fail
      go_roundg (gk - 1)
      case measure => omega
      case rel => exact ⟨i + 1, by omega, by omega, by go_num, HF3.out⟩
    · obtain rfl : i = N := by omega
      have HX1 := Lib.hid HX.out
      clear HX HF hiN
      go_wp2_with fail
      go_loopg [6, 8] (i + 1) (fun gg s6 s8 wx => ∃ j : Nat, j ≤ i ∧ i - j < gg ∧ s6 = .int .i64 (Wh.left d j) ∧ s8 = .int .i64 j ∧ Wh.left d j ≤ j ∧ Aside (WF w1 gw (Wh.drops q d i j) 0 wx))
      case atStart => exact ⟨0, by omega, by omega, rfl, rfl, Nat.le_refl _, HX1.out⟩
      case round =>
        obtain ⟨j, hj, hg2, rfl, rfl, hlj, HY⟩ := hrel
        have hl200 : Wh.left d j ≤ 200 := by omega
        by_cases hjN : j < i
        · have hjz : (j : Int) < (i : Int) := by omega
          by_cases hjm : j < m
          · have hjmz : (j : Int) < (m : Int) := by omega
            obtain ⟨b, off, rfl, hbs, hcx⟩ := Rd.bool (HB1.out.below HY.out.bel) (k := j) (by rw [HlB.out]; exact hjm)
            have HDR : Hid (Wh.dr d j = d.getD j false) := Lib.hid rfl
            cases hv : d.getD j false with
            | true =>
              rw [hv] at hcx HDR
              have HL : Hid (Wh.left d (j + 1) = Wh.left d j) := Lib.hid (by conv => lhs; unfold Wh.left; rw [if_pos HDR.out])
              have HD1 := Lib.hid (HY.out.drop_in hjN)
              have HWk := Lib.hid (Wh.drops_law q d i j (by omega)).1
              clear hv
              go_wp2_with fail
              refine HD1.out.mono ?_
              rintro ee w3 ⟨rfl, hF3⟩
              have HD2 := Lib.hid (hF3.drop_out HWk.out)
              clear hF3 HD1
              go_wp2_with fail
              refine HD2.out.mono ?_
              rintro ee w4 ⟨rfl, hF4⟩
              have HE : Hid (Wh.drops q d i (j + 1) = Wh.dropAt (Wh.drops q d i j) j) := Lib.hid (by conv => lhs; unfold Wh.drops; rw [if_pos HDR.out])
              have HF4 := Lib.hid hF4
              clear hF4 HD2
              go_wp2_with fail
              go_roundg (gk - 1)
              case measure => omega
              case rel => exact ⟨j + 1, by omega, by omega, by rw [HL.out], by go_num, by rw [HL.out]; omega, by rw [HE.out]; exact HF4.out⟩
            | false =>
              rw [hv] at hcx HDR
              have HL : Hid (Wh.left d (j + 1) = Wh.left d j + 1) := Lib.hid (by conv => lhs; unfold Wh.left; rw [if_neg (by rw [HDR.out]; simp)])
              have HE : Hid (Wh.drops q d i (j + 1) = Wh.drops q d i j) := Lib.hid (by conv => lhs; unfold Wh.drops; rw [if_neg (by rw [HDR.out]; simp)])
              clear hv
              go_wp2_with fail
              go_roundg (gk - 1)
              case measure => omega
              case rel => exact ⟨j + 1, by omega, by omega, by rw [HL.out]; go_num, by go_num, by rw [HL.out]; omega, by rw [HE.out]; exact HY.out⟩
          · have hjmz : ¬ (j : Int) < (m : Int) := by omega
            have HDR : Hid (Wh.dr d j = false) := Lib.hid (by unfold Wh.dr; have := HlB.out; rw [List.getD_eq_getElem?_getD, List.getElem?_eq_none (by omega)]; rfl)
            have HL : Hid (Wh.left d (j + 1) = Wh.left d j + 1) := Lib.hid (by conv => lhs; unfold Wh.left; rw [if_neg (by rw [HDR.out]; simp)])
            have HE : Hid (Wh.drops q d i (j + 1) = Wh.drops q d i j) := Lib.hid (by conv => lhs; unfold Wh.drops; rw [if_neg (by rw [HDR.out]; simp)])
            go_wp2_with fail
            go_roundg (gk - 1)
            case measure => omega
            case rel => exact ⟨j + 1, by omega, by omega, by rw [HL.out]; go_num, by go_num, by rw [HL.out]; omega, by rw [HE.out]; exact HY.out⟩
        · obtain rfl : j = i := by omega
          have HT := HY.out.tick (t := 70000) (by decide) (by decide)
          obtain ⟨e2, elen, emem⟩ := Wh.drops_tick q d j (fun x hx => (Ha.out x hx).2)
          obtain ⟨r, hr⟩ : ∃ r, r = Wh.tickL ((Wh.drops q d j j).length + 1) (Wh.drops q d j j) 70000 := ⟨_, rfl⟩
          rw [← hr] at HT e2 elen emem
          have HT := Lib.hid HT
          have HE2 := Lib.hid e2
          have HEL := Lib.hid elen
          have HEM := Lib.hid emem
          clear HX1 HY hjN hr e2 elen emem
          go_wp2_with fail
          refine HT.out.mono ?_
          rintro ee w5 ⟨B5, d5, rfl, hR5, _, hF5, _⟩
          rw [HEL.out] at hR5 ⊢
          rw [HE2.out] at hF5
          have HWt := Lib.hid hF5.waits
          have HR5 := Lib.hid hR5
          have HB5 := Lib.hid (HB1.out.below hF5.bel)
          have HF5 := Lib.hid hF5.bel
          clear HT hR5 hF5
          go_wp2_with fail
          refine HWt.out.mono ?_
          rintro ee w6 ⟨rfl, rfl⟩
          clear HWt
          go_wp2_with fail
          go_loopg [11] (Wh.left d j + 1) (fun gg s11 wx => ∃ k : Nat, k ≤ Wh.left d j ∧ Wh.left d j - k < gg ∧ s11 = .int .i64 k ∧ wx = w5)
          case atStart => exact ⟨0, by omega, by omega, rfl, rfl⟩
          case round =>
            obtain ⟨k, hk, hg3, rfl, rfl⟩ := hrel
            by_cases hkl : k < Wh.left d j
            · have hkz : (k : Int) < (Wh.left d j : Int) := by omega
              have hR6 := HR5.out
              obtain ⟨b, off, x, rfl, hbs, hcx, hxm⟩ := Rd.ks (k := k) (show Rd _ 1 _ r.1.length _ by rw [HEL.out]; exact hR6) (by rw [HEL.out]; exact hkl)
              obtain ⟨jj, hjj, hxk, hdr⟩ := HEM.out x hxm
              rw [hxk] at hcx
              have hjz2 : (jj : Int) < (j : Int) := by omega
              have hj200 : jj ≤ 200 := by omega
              by_cases hjm : jj < m
              · have hjmz : (jj : Int) < (m : Int) := by omega
                obtain ⟨b2, off2, rfl, hbs2, hcx2⟩ := Rd.bool HB5.out (k := jj) (by rw [HlB.out]; exact hjm)
                have hdr' : d.getD jj false = false := hdr
                rw [hdr'] at hcx2
                clear hR6 hdr hdr' hxk hxm
                go_wp2_with fail
                go_roundg (gk - 1)
                case measure => omega
                case rel => exact ⟨k + 1, by omega, by omega, by go_num, rfl⟩
              · have hjmz : ¬ (jj : Int) < (m : Int) := by omega
                clear hR6 hdr hxk hxm
                go_wp2_with fail
                go_roundg (gk - 1)
                case measure => omega
                case rel => exact ⟨k + 1, by omega, by omega, by go_num, rfl⟩
            · obtain rfl : k = Wh.left d j := by omega
              clear hkl
              go_wp2_with fail
              go_ret
              exact ⟨rfl, bel_then Hb1.out HF5.out⟩
end Go.Proofs.Ytlibhboibkajgaa
