/- The walk of WheelRight (printed by gen_wright.py). -/
import Derived.Test.YtlibhboibkajgaaWrLawP
namespace Go.Proofs.Ytlibhboibkajgaa
open Go.RowKit
set_option linter.unusedVariables false
set_option linter.unusedSimpArgs false
/-- acts that came in -/
def RdActs (w : World) (A : Option Addr) (n : Nat) : Prop := ∀ j, j < n → ∃ b off kd k t, A = some ⟨b, off, none⟩ ∧ b < w.heap.size ∧ w.cell? ⟨b, off + j * 3, none⟩ = some (.int .i64 kd) ∧ w.cell? ⟨b, off + j * 3 + 1, none⟩ = some (.int .i64 k) ∧ w.cell? ⟨b, off + j * 3 + 2, none⟩ = some (.int .i64 t)
theorem RdActs.below {w w' : World} {A : Option Addr} {n : Nat} (h : RdActs w A n) (hb : Below w.heap.size w w') : RdActs w' A n := fun j hj => by
  obtain ⟨b, off, kd, k, t, e, hs, h0, h1, h2⟩ := h j hj
  exact ⟨b, off, kd, k, t, e, Nat.lt_of_lt_of_le hs hb.size, (hb.cell (p := ⟨b, _, none⟩) hs).trans h0, (hb.cell (p := ⟨b, _, none⟩) hs).trans h1, (hb.cell (p := ⟨b, _, none⟩) hs).trans h2⟩
set_option maxRecDepth 8000 in
set_option maxHeartbeats 16000000 in
theorem WheelRight_walk (A : Option Addr) (n c : Nat) (w : World) (hA : RdActs w A n) (hc : n ≤ 9223372036854775807) :
    Calls Try.prog 6 #[.slice A n c] w fun e w' => e = .returned (.bool true) ∧ Below w.heap.size w w' := by
  have HA := Lib.hid hA
  have HW := Lib.hid (awake_spec w)
  clear hA
  go_enter Try.func6, Try.ntmps6
  go_wp2_with fail
  refine HW.out.mono ?_
  rintro ee w1 ⟨rfl, hb1⟩
  have HN := Lib.hid (wnew_wf w1)
  have HA1 := Lib.hid (HA.out.below hb1)
  have Hb1 := Lib.hid hb1
  clear HW hb1 HA
  go_wp2_with fail
  refine HN.out.mono ?_
  rintro ee w2 ⟨gw, rfl, hF⟩
  have hbx : Below w2.heap.size w2 (w2.alloc (.cells #[.slice none 0 0, .int .i64 0] 44)) := bel_a (Below.refl _ _) _
  have HF := Lib.hid (hF.below hbx)
  have HG : Hid (w1.heap.size ≤ w2.heap.size) := Lib.hid hF.bel.size
  have HX : Hid (BlkV (w2.alloc (.cells #[.slice none 0 0, .int .i64 0] 44)) w2.heap.size 44 [.slice none 0 0, .int .i64 0]) := Lib.hid (BlkV.new _ _ _)
  clear hF HN hbx
  go_upto_region 5 with (fail)
  go_wp2_with fail
  go_loopg [5] (n + 1) (fun gg s5 wx => ∃ (i : Nat) (l r : List Wh.Al) (now : Int) (A' : Option Addr) (c' : Nat), i ≤ n ∧ i ≤ 300 ∧ n - i < gg ∧ s5 = .int .i64 i ∧ Aside (WF w1 gw l now wx) ∧ Aside (BlkV wx w2.heap.size 44 [.slice A' r.length c', .int .i64 now]) ∧ Aside (wx.ownsRow 0 71 2 (.slice A' r.length c') r.length (acells r)) ∧ Aside (Wh.Twin l r))
  case atStart => exact ⟨0, [], [], 0, none, 0, by omega, by omega, by omega, rfl, HF.out, HX.out, ⟨rfl, Or.inl ⟨rfl, rfl⟩⟩, Wh.Twin.nil⟩
  case round =>
    obtain ⟨i, l, r, now, A', c', hi, hi3, hg, rfl, HF3, HX3, HO3, HT3⟩ := hrel
    clear HF HX
    by_cases hin : i < n
    · have hiz : (i : Int) < (n : Int) := by omega
      by_cases hi4 : i < 300
      · have hi4z : (i : Int) < 300 := by omega
        obtain ⟨b, off, kd, k, t, rfl, hbs, q0, q1, q2⟩ := HA1.out.below HF3.out.bel i hin
        go_upto_region 9 with (fail)
        obtain ⟨W, hW⟩ : ∃ W, W = wr.alloc (.cells #[.int .i64 kd, .int .i64 k, .int .i64 t] 46) := ⟨_, rfl⟩
        rw [← hW]
        have hb : Below wr.heap.size wr W := by rw [hW]; exact bel_a (Below.refl _ _) _
        have NA : BlkV W wr.heap.size 46 [.int .i64 kd, .int .i64 k, .int .i64 t] := by rw [hW]; exact BlkV.new _ _ _
        have NX := HX3.out.below hb
        have hgn : wr.heap.size ≠ w2.heap.size := by have := HX3.out.lt; omega
        have HF4 := Lib.hid (HF3.out.below hb)
        have HO4 := Lib.hid (own_below HO3.out hb)
        have HR4 : Hid (r.length ≤ 256) := Lib.hid (by rw [HT3.out.len]; exact HF3.out.sm.1)
        have a0 : W.cell? ⟨wr.heap.size, 0, none⟩ = some (.int .i64 kd) := NA.cell rfl
        have a1 : W.cell? ⟨wr.heap.size, 1, none⟩ = some (.int .i64 k) := NA.cell rfl
        have a2 : W.cell? ⟨wr.heap.size, 2, none⟩ = some (.int .i64 t) := NA.cell rfl
        have x0 : W.cell? ⟨w2.heap.size, 0, none⟩ = some (.slice A' r.length c') := NX.cell rfl
        have x1 : W.cell? ⟨w2.heap.size, 1, none⟩ = some (.int .i64 now) := NX.cell rfl
        have HNA := Lib.hid NA
        have HNX := Lib.hid NX
        have HGN := Lib.hid hgn
        clear hW hb NA NX hgn q0 q1 q2 HF3 HX3 HO3
        by_cases hk0 : kd = 0
        · subst hk0
          have hS := rset_spec A' r.length c' now k t r W HO4.out HT3.out.dist HR4.out
          obtain ⟨hs1, hs2⟩ := HT3.out.set now k t
          obtain ⟨R3, hR3⟩ : ∃ R3, R3 = (Wh.rset r now k t).2 := ⟨_, rfl⟩
          obtain ⟨e3, he3⟩ : ∃ e3, e3 = (Wh.rset r now k t).1 := ⟨_, rfl⟩
          rw [← hR3, ← he3] at hS
          rw [← hR3] at hs2
          rw [← he3] at hs1
          have HS := Lib.hid hS
          have HS1 := Lib.hid hs1
          have HT6 := Lib.hid hs2
          clear hS hs1 hs2 hR3 he3
          go_wp2_with fail
          refine HS.out.mono ?_
          rintro ee w3 ⟨v, rfl, ⟨A3, c3, rfl, hO3⟩, hb3⟩

          have NA3 := HNA.out.below hb3
          have NX3 := HNX.out.below hb3
          have HF3 := Lib.hid (HF4.out.below hb3)
          have hb4 : Below w3.heap.size w3 (w3.alloc (.cells #[.slice A3 (R3).length c3, .int .i64 now] 44)) := bel_a (Below.refl _ _) _
          have HO4' := Lib.hid (own_below hO3 hb4)
          have HF4' := Lib.hid (HF3.out.below hb4)
          have NA4 := NA3.below hb4
          have NX4 := NX3.below hb4
          have NT4 : BlkV (w3.alloc (.cells #[.slice A3 (R3).length c3, .int .i64 now] 44)) w3.heap.size 44 [.slice A3 (R3).length c3, .int .i64 now] := BlkV.new _ _ _
          clear hb3 NA3 NX3 HF3 hb4 HF4 HO4 a0 a1 a2 x0 x1 HNA HNX hO3 HS
          go_upto_region 17 with (fail)
          obtain ⟨W4, hW4⟩ : ∃ W4, W4 = w3.alloc (.cells #[.slice A3 (R3).length c3, .int .i64 now] 44) := ⟨_, rfl⟩
          rw [← hW4] at HO4' HF4' NA4 NX4 NT4 ⊢
          have t0 : W4.cell? ⟨w3.heap.size, 0, none⟩ = some (.slice A3 (R3).length c3) := NT4.cell rfl
          have t1 : W4.cell? ⟨w3.heap.size, 1, none⟩ = some (.int .i64 now) := NT4.cell rfl
          clear hW4
          go_upto_region 18 with (first | (refine wpList_stB 44 _ _ (by with_reducible rfl) rfl (by rfl) [.slice A3 (R3).length c3, .int .i64 now] (by rfl) (by exact NX4) (by rfl) (by kernel_rfl) (by rfl) ?_; intro w5 N5 O5) | fail)
          have HF5 := Lib.hid (HF4'.out.only NX4 (by decide) (by decide) O5 HG.out)
          have HO5 := Lib.hid (own_box HO4'.out NX4 (by decide) O5)
          have NA5 := NA4.only O5 HGN.out
          have HNX5 := Lib.hid N5
          have HNA5 := Lib.hid NA5
          have a0 : w5.cell? ⟨wr.heap.size, 0, none⟩ = some (.int .i64 0) := NA5.cell rfl
          have a1 : w5.cell? ⟨wr.heap.size, 1, none⟩ = some (.int .i64 k) := NA5.cell rfl
          have a2 : w5.cell? ⟨wr.heap.size, 2, none⟩ = some (.int .i64 t) := NA5.cell rfl
          clear NA4 NX4 NT4 N5 NA5 O5 t0 t1 HF4' HO4'

          have hK := HF5.out.setK k t
          rw [HS1.out] at hK
          have HK := Lib.hid hK
          clear hK HS1
          go_wp2_with fail
          refine HK.out.mono ?_
          rintro ee w6 ⟨rfl, hF6, hFr⟩
          have HF6 := Lib.hid hF6
          have HNX6 := Lib.hid (hFr.blk _ _ _ HNX5.out (by decide) (by decide))
          have HNA6 := Lib.hid (hFr.blk _ _ _ HNA5.out (by decide) (by decide))
          have HO6 := Lib.hid (hFr.row _ _ _ _ _ _ HO5.out (by decide) (by decide))
          clear hF6 hFr HK HF5 HNX5 HNA5 HO5 a0 a1 a2
          go_upto_region 25 with (fail)

          have HR6 : Hid ((R3).length ≤ 256) := Lib.hid (by rw [HT6.out.len]; exact HF6.out.sm.1)
          have a1 : w6.cell? ⟨wr.heap.size, 1, none⟩ = some (.int .i64 k) := HNA6.out.cell rfl
          have HWn := Lib.hid (HF6.out.whenK HT6.out k)
          have x0 : w6.cell? ⟨w2.heap.size, 0, none⟩ = some (.slice A3 (R3).length c3) := HNX6.out.cell rfl
          have x1 : w6.cell? ⟨w2.heap.size, 1, none⟩ = some (.int .i64 now) := HNX6.out.cell rfl
          have HRw := Lib.hid (rwhen_spec A3 (R3).length c3 now k (R3) w6 (Rd.of_own HO6.out) HT6.out.dist (by have := HR6.out; omega))
          go_wp2_with fail
          refine HWn.out.mono ?_
          rintro ee w7 ⟨rfl, rfl⟩
          clear HWn
          go_wp2_with fail
          refine HRw.out.mono ?_
          rintro ee w8 ⟨rfl, hb8⟩
          have HF8 := Lib.hid (HF6.out.below hb8)
          have HNX8 := Lib.hid (HNX6.out.below hb8)
          have HO8 := Lib.hid (own_below HO6.out hb8)
          have x0 : w8.cell? ⟨w2.heap.size, 0, none⟩ = some (.slice A3 (R3).length c3) := HNX8.out.cell rfl
          have x1 : w8.cell? ⟨w2.heap.size, 1, none⟩ = some (.int .i64 now) := HNX8.out.cell rfl
          have HQ1 : Hid (∀ q, Calls Try.prog 12 #[.pointer (some ⟨gw, 0, none⟩)] (w8.drewN q) fun e w'' => e = .returned (.int .i64 (R3).length) ∧ ∃ m, w'' = w8.drewN m) := Lib.hid fun q => ((HF8.out.below (bel_n (Below.refl _ w8) q)).waits).mono (by rintro e w' ⟨rfl, rfl⟩; exact ⟨by rw [HT6.out.len], q, rfl⟩)
          have HQ2 : Hid (∀ q, Calls Try.prog 19 #[.pointer (some ⟨gw, 0, none⟩)] (w8.drewN q) fun e w'' => e = .returned (.int .i64 now) ∧ ∃ m, w'' = w8.drewN m) := Lib.hid fun q => ((HF8.out.below (bel_n (Below.refl _ w8) q)).nowc).mono (by rintro e w' ⟨rfl, rfl⟩; exact ⟨rfl, q, rfl⟩)
          obtain ⟨T1, hT1⟩ : ∃ T1, T1 = Wh.whenT (R3) k := ⟨_, rfl⟩
          obtain ⟨T2, hT2⟩ : ∃ T2, T2 = Wh.whenB (R3) k := ⟨_, rfl⟩
          rw [← hT1, ← hT2]
          clear hb8 HRw a1 hT1 hT2
          go_wp2_with fail
          go_quiet ((first | (go_at_call 12; exact HQ1.out _) | (go_at_call 19; exact HQ2.out _)))
          go_wp2_with fail
          go_roundg (gk - 1)
          case measure => omega
          case rel => exact ⟨i + 1, _, (R3), now, A3, c3, by omega, by omega, by omega, by go_num, HF8.out.below (bel_n (Below.refl _ w8) _), HNX8.out.below (bel_n (Below.refl _ w8) _), own_below HO8.out (bel_n (Below.refl _ w8) _), HT6.out⟩
        · have hk0B : (kd == 0) = false := by simp [hk0]
          by_cases hk1 : kd = 1
          · subst hk1
            have hS := rdrop_spec A' r.length c' now k r W HO4.out HT3.out.dist (by have := HR4.out; omega)
            obtain ⟨hs1, hs2⟩ := HT3.out.drop k
            obtain ⟨R3, hR3⟩ : ∃ R3, R3 = (Wh.rdrop r k).2 := ⟨_, rfl⟩
            obtain ⟨e3, he3⟩ : ∃ e3, e3 = (Wh.rdrop r k).1 := ⟨_, rfl⟩
            rw [← hR3, ← he3] at hS
            rw [← hR3] at hs2
            rw [← he3] at hs1
            have HS := Lib.hid hS
            have HS1 := Lib.hid hs1
            have HT6 := Lib.hid hs2
            clear hS hs1 hs2 hR3 he3 hk0
            go_wp2_with fail
            refine HS.out.mono ?_
            rintro ee w3 ⟨v, rfl, ⟨A3, c3, rfl, hO3⟩, hb3⟩

            have NA3 := HNA.out.below hb3
            have NX3 := HNX.out.below hb3
            have HF3 := Lib.hid (HF4.out.below hb3)
            have hb4 : Below w3.heap.size w3 (w3.alloc (.cells #[.slice A3 (R3).length c3, .int .i64 now] 44)) := bel_a (Below.refl _ _) _
            have HO4' := Lib.hid (own_below hO3 hb4)
            have HF4' := Lib.hid (HF3.out.below hb4)
            have NA4 := NA3.below hb4
            have NX4 := NX3.below hb4
            have NT4 : BlkV (w3.alloc (.cells #[.slice A3 (R3).length c3, .int .i64 now] 44)) w3.heap.size 44 [.slice A3 (R3).length c3, .int .i64 now] := BlkV.new _ _ _
            clear hb3 NA3 NX3 HF3 hb4 HF4 HO4 a0 a1 a2 x0 x1 HNA HNX hO3 HS
            go_upto_region 22 with (fail)
            obtain ⟨W4, hW4⟩ : ∃ W4, W4 = w3.alloc (.cells #[.slice A3 (R3).length c3, .int .i64 now] 44) := ⟨_, rfl⟩
            rw [← hW4] at HO4' HF4' NA4 NX4 NT4 ⊢
            have t0 : W4.cell? ⟨w3.heap.size, 0, none⟩ = some (.slice A3 (R3).length c3) := NT4.cell rfl
            have t1 : W4.cell? ⟨w3.heap.size, 1, none⟩ = some (.int .i64 now) := NT4.cell rfl
            clear hW4
            go_upto_region 23 with (first | (refine wpList_stB 44 _ _ (by with_reducible rfl) rfl (by rfl) [.slice A3 (R3).length c3, .int .i64 now] (by rfl) (by exact NX4) (by rfl) (by kernel_rfl) (by rfl) ?_; intro w5 N5 O5) | fail)
            have HF5 := Lib.hid (HF4'.out.only NX4 (by decide) (by decide) O5 HG.out)
            have HO5 := Lib.hid (own_box HO4'.out NX4 (by decide) O5)
            have NA5 := NA4.only O5 HGN.out
            have HNX5 := Lib.hid N5
            have HNA5 := Lib.hid NA5
            have a0 : w5.cell? ⟨wr.heap.size, 0, none⟩ = some (.int .i64 1) := NA5.cell rfl
            have a1 : w5.cell? ⟨wr.heap.size, 1, none⟩ = some (.int .i64 k) := NA5.cell rfl
            have a2 : w5.cell? ⟨wr.heap.size, 2, none⟩ = some (.int .i64 t) := NA5.cell rfl
            clear NA4 NX4 NT4 N5 NA5 O5 t0 t1 HF4' HO4'

            have hK := HF5.out.dropK k
            rw [HS1.out] at hK
            have HK := Lib.hid hK
            clear hK HS1
            go_wp2_with fail
            refine HK.out.mono ?_
            rintro ee w6 ⟨rfl, hF6, hFr⟩
            have HF6 := Lib.hid hF6
            have HNX6 := Lib.hid (hFr.blk _ _ _ HNX5.out (by decide) (by decide))
            have HNA6 := Lib.hid (hFr.blk _ _ _ HNA5.out (by decide) (by decide))
            have HO6 := Lib.hid (hFr.row _ _ _ _ _ _ HO5.out (by decide) (by decide))
            clear hF6 hFr HK HF5 HNX5 HNA5 HO5 a0 a1 a2
            go_upto_region 25 with (fail)

            have HR6 : Hid ((R3).length ≤ 256) := Lib.hid (by rw [HT6.out.len]; exact HF6.out.sm.1)
            have a1 : w6.cell? ⟨wr.heap.size, 1, none⟩ = some (.int .i64 k) := HNA6.out.cell rfl
            have HWn := Lib.hid (HF6.out.whenK HT6.out k)
            have x0 : w6.cell? ⟨w2.heap.size, 0, none⟩ = some (.slice A3 (R3).length c3) := HNX6.out.cell rfl
            have x1 : w6.cell? ⟨w2.heap.size, 1, none⟩ = some (.int .i64 now) := HNX6.out.cell rfl
            have HRw := Lib.hid (rwhen_spec A3 (R3).length c3 now k (R3) w6 (Rd.of_own HO6.out) HT6.out.dist (by have := HR6.out; omega))
            go_wp2_with fail
            refine HWn.out.mono ?_
            rintro ee w7 ⟨rfl, rfl⟩
            clear HWn
            go_wp2_with fail
            refine HRw.out.mono ?_
            rintro ee w8 ⟨rfl, hb8⟩
            have HF8 := Lib.hid (HF6.out.below hb8)
            have HNX8 := Lib.hid (HNX6.out.below hb8)
            have HO8 := Lib.hid (own_below HO6.out hb8)
            have x0 : w8.cell? ⟨w2.heap.size, 0, none⟩ = some (.slice A3 (R3).length c3) := HNX8.out.cell rfl
            have x1 : w8.cell? ⟨w2.heap.size, 1, none⟩ = some (.int .i64 now) := HNX8.out.cell rfl
            have HQ1 : Hid (∀ q, Calls Try.prog 12 #[.pointer (some ⟨gw, 0, none⟩)] (w8.drewN q) fun e w'' => e = .returned (.int .i64 (R3).length) ∧ ∃ m, w'' = w8.drewN m) := Lib.hid fun q => ((HF8.out.below (bel_n (Below.refl _ w8) q)).waits).mono (by rintro e w' ⟨rfl, rfl⟩; exact ⟨by rw [HT6.out.len], q, rfl⟩)
            have HQ2 : Hid (∀ q, Calls Try.prog 19 #[.pointer (some ⟨gw, 0, none⟩)] (w8.drewN q) fun e w'' => e = .returned (.int .i64 now) ∧ ∃ m, w'' = w8.drewN m) := Lib.hid fun q => ((HF8.out.below (bel_n (Below.refl _ w8) q)).nowc).mono (by rintro e w' ⟨rfl, rfl⟩; exact ⟨rfl, q, rfl⟩)
            obtain ⟨T1, hT1⟩ : ∃ T1, T1 = Wh.whenT (R3) k := ⟨_, rfl⟩
            obtain ⟨T2, hT2⟩ : ∃ T2, T2 = Wh.whenB (R3) k := ⟨_, rfl⟩
            rw [← hT1, ← hT2]
            clear hb8 HRw a1 hT1 hT2
            go_wp2_with fail
            go_quiet ((first | (go_at_call 12; exact HQ1.out _) | (go_at_call 19; exact HQ2.out _)))
            go_wp2_with fail
            go_roundg (gk - 1)
            case measure => omega
            case rel => exact ⟨i + 1, _, (R3), now, A3, c3, by omega, by omega, by omega, by go_num, HF8.out.below (bel_n (Below.refl _ w8) _), HNX8.out.below (bel_n (Below.refl _ w8) _), own_below HO8.out (bel_n (Below.refl _ w8) _), HT6.out⟩
          · have hk1B : (kd == 1) = false := by simp [hk1]
            clear hk0 hk1
            by_cases hbad : t < now ∨ 1099511627776 < t
            · have hS := rtick_bad A' r.length c' now t W hbad
              have HS := Lib.hid hS
              have HBad := Lib.hid hbad
              clear hS hbad
              go_wp2_with fail
              refine HS.out.mono ?_
              rintro ee w3 ⟨rfl, hb3⟩
              have hO3 := own_below HO4.out hb3
              
              have NA3 := HNA.out.below hb3
              have NX3 := HNX.out.below hb3
              have HF3 := Lib.hid (HF4.out.below hb3)
              have hb4 : Below w3.heap.size w3 (w3.alloc (.cells #[.slice A' (r).length c', .int .i64 now] 44)) := bel_a (Below.refl _ _) _
              have HO4' := Lib.hid (own_below hO3 hb4)
              have HF4' := Lib.hid (HF3.out.below hb4)
              have NA4 := NA3.below hb4
              have NX4 := NX3.below hb4
              have NT4 : BlkV (w3.alloc (.cells #[.slice A' (r).length c', .int .i64 now] 44)) w3.heap.size 44 [.slice A' (r).length c', .int .i64 now] := BlkV.new _ _ _
              clear hb3 NA3 NX3 HF3 hb4 HF4 HO4 a0 a1 a2 x0 x1 HNA HNX hO3 HS
              go_upto_region 11 with (fail)
              obtain ⟨W4, hW4⟩ : ∃ W4, W4 = w3.alloc (.cells #[.slice A' (r).length c', .int .i64 now] 44) := ⟨_, rfl⟩
              rw [← hW4] at HO4' HF4' NA4 NX4 NT4 ⊢
              have t0 : W4.cell? ⟨w3.heap.size, 0, none⟩ = some (.slice A' (r).length c') := NT4.cell rfl
              have t1 : W4.cell? ⟨w3.heap.size, 1, none⟩ = some (.int .i64 now) := NT4.cell rfl
              clear hW4
              go_upto_region 12 with (first | (refine wpList_stB 44 _ _ (by with_reducible rfl) rfl (by rfl) [.slice A' (r).length c', .int .i64 now] (by rfl) (by exact NX4) (by rfl) (by kernel_rfl) (by rfl) ?_; intro w5 N5 O5) | fail)
              have HF5 := Lib.hid (HF4'.out.only NX4 (by decide) (by decide) O5 HG.out)
              have HO5 := Lib.hid (own_box HO4'.out NX4 (by decide) O5)
              have NA5 := NA4.only O5 HGN.out
              have HNX5 := Lib.hid N5
              have HNA5 := Lib.hid NA5
              have a0 : w5.cell? ⟨wr.heap.size, 0, none⟩ = some (.int .i64 kd) := NA5.cell rfl
              have a1 : w5.cell? ⟨wr.heap.size, 1, none⟩ = some (.int .i64 k) := NA5.cell rfl
              have a2 : w5.cell? ⟨wr.heap.size, 2, none⟩ = some (.int .i64 t) := NA5.cell rfl
              clear NA4 NX4 NT4 N5 NA5 O5 t0 t1 HF4' HO4'
              
              have HK := Lib.hid (HF5.out.tick_bad HBad.out)
              have HSm := Lib.hid (isame_spec none 0 0 none 0 [] w5 (Rd.nil_ _) (Rd.nil_ _) (by omega))
              go_wp2_with fail
              refine HK.out.mono ?_
              rintro ee w5' ⟨rfl, rfl⟩
              clear HK
              go_wp2_with fail
              refine HSm.out.mono ?_
              rintro ee w6 ⟨rfl, hb6⟩
              have HF6 := Lib.hid (HF5.out.below hb6)
              have HNX6 := Lib.hid (HNX5.out.below hb6)
              have HNA6 := Lib.hid (HNA5.out.below hb6)
              have HO6 := Lib.hid (own_below HO5.out hb6)
              have HT6 := HT3
              clear hb6 HSm HF5 HNX5 HNA5 HO5 a0 a1 a2
              go_upto_region 25 with (fail)
              
              have HR6 : Hid ((r).length ≤ 256) := Lib.hid (by rw [HT6.out.len]; exact HF6.out.sm.1)
              have a1 : w6.cell? ⟨wr.heap.size, 1, none⟩ = some (.int .i64 k) := HNA6.out.cell rfl
              have HWn := Lib.hid (HF6.out.whenK HT6.out k)
              have x0 : w6.cell? ⟨w2.heap.size, 0, none⟩ = some (.slice A' (r).length c') := HNX6.out.cell rfl
              have x1 : w6.cell? ⟨w2.heap.size, 1, none⟩ = some (.int .i64 now) := HNX6.out.cell rfl
              have HRw := Lib.hid (rwhen_spec A' (r).length c' now k (r) w6 (Rd.of_own HO6.out) HT6.out.dist (by have := HR6.out; omega))
              go_wp2_with fail
              refine HWn.out.mono ?_
              rintro ee w7 ⟨rfl, rfl⟩
              clear HWn
              go_wp2_with fail
              refine HRw.out.mono ?_
              rintro ee w8 ⟨rfl, hb8⟩
              have HF8 := Lib.hid (HF6.out.below hb8)
              have HNX8 := Lib.hid (HNX6.out.below hb8)
              have HO8 := Lib.hid (own_below HO6.out hb8)
              have x0 : w8.cell? ⟨w2.heap.size, 0, none⟩ = some (.slice A' (r).length c') := HNX8.out.cell rfl
              have x1 : w8.cell? ⟨w2.heap.size, 1, none⟩ = some (.int .i64 now) := HNX8.out.cell rfl
              have HQ1 : Hid (∀ q, Calls Try.prog 12 #[.pointer (some ⟨gw, 0, none⟩)] (w8.drewN q) fun e w'' => e = .returned (.int .i64 (r).length) ∧ ∃ m, w'' = w8.drewN m) := Lib.hid fun q => ((HF8.out.below (bel_n (Below.refl _ w8) q)).waits).mono (by rintro e w' ⟨rfl, rfl⟩; exact ⟨by rw [HT6.out.len], q, rfl⟩)
              have HQ2 : Hid (∀ q, Calls Try.prog 19 #[.pointer (some ⟨gw, 0, none⟩)] (w8.drewN q) fun e w'' => e = .returned (.int .i64 now) ∧ ∃ m, w'' = w8.drewN m) := Lib.hid fun q => ((HF8.out.below (bel_n (Below.refl _ w8) q)).nowc).mono (by rintro e w' ⟨rfl, rfl⟩; exact ⟨rfl, q, rfl⟩)
              obtain ⟨T1, hT1⟩ : ∃ T1, T1 = Wh.whenT (r) k := ⟨_, rfl⟩
              obtain ⟨T2, hT2⟩ : ∃ T2, T2 = Wh.whenB (r) k := ⟨_, rfl⟩
              rw [← hT1, ← hT2]
              clear hb8 HRw a1 hT1 hT2
              go_wp2_with fail
              go_quiet ((first | (go_at_call 12; exact HQ1.out _) | (go_at_call 19; exact HQ2.out _)))
              go_wp2_with fail
              go_roundg (gk - 1)
              case measure => omega
              case rel => exact ⟨i + 1, _, (r), now, A', c', by omega, by omega, by omega, by go_num, HF8.out.below (bel_n (Below.refl _ w8) _), HNX8.out.below (bel_n (Below.refl _ w8) _), own_below HO8.out (bel_n (Below.refl _ w8) _), HT6.out⟩
            · have ht0 : now ≤ t := by omega
              have ht1 : t ≤ 1099511627776 := by omega
              have HS := Lib.hid (rtick_spec A' r.length c' now t r W HO4.out HT3.out.dist HR4.out ht0 ht1)
              clear hbad
              go_wp2_with fail
              refine HS.out.mono ?_
              rintro ee w3 ⟨v, o, R3, B3, d3, rfl, ⟨A3, c3, rfl, hO3⟩, hRo, hb3, hRT, hst⟩
              obtain ⟨ho1, hT6⟩ := hRT.same HT3.out hst
              have HT6 := Lib.hid hT6
              have HO1 := Lib.hid ho1
              clear hRT hst hT6 ho1
              
              have NA3 := HNA.out.below hb3
              have NX3 := HNX.out.below hb3
              have HF3 := Lib.hid (HF4.out.below hb3)
              have hb4 : Below w3.heap.size w3 (w3.alloc (.cells #[.slice A3 (R3).length c3, .int .i64 t] 44)) := bel_a (Below.refl _ _) _
              have HO4' := Lib.hid (own_below hO3 hb4)
              have HF4' := Lib.hid (HF3.out.below hb4)
              have NA4 := NA3.below hb4
              have NX4 := NX3.below hb4
              have NT4 : BlkV (w3.alloc (.cells #[.slice A3 (R3).length c3, .int .i64 t] 44)) w3.heap.size 44 [.slice A3 (R3).length c3, .int .i64 t] := BlkV.new _ _ _
              have HRo4 := Lib.hid (own_below hRo hb4)
              clear hRo hb3 NA3 NX3 HF3 hb4 HF4 HO4 a0 a1 a2 x0 x1 HNA HNX hO3 HS
              go_upto_region 11 with (fail)
              obtain ⟨W4, hW4⟩ : ∃ W4, W4 = w3.alloc (.cells #[.slice A3 (R3).length c3, .int .i64 t] 44) := ⟨_, rfl⟩
              rw [← hW4] at HRo4 HO4' HF4' NA4 NX4 NT4 ⊢
              have t0 : W4.cell? ⟨w3.heap.size, 0, none⟩ = some (.slice A3 (R3).length c3) := NT4.cell rfl
              have t1 : W4.cell? ⟨w3.heap.size, 1, none⟩ = some (.int .i64 t) := NT4.cell rfl
              clear hW4
              go_upto_region 12 with (first | (refine wpList_stB 44 _ _ (by with_reducible rfl) rfl (by rfl) [.slice A3 (R3).length c3, .int .i64 t] (by rfl) (by exact NX4) (by rfl) (by kernel_rfl) (by rfl) ?_; intro w5 N5 O5) | fail)
              have HF5 := Lib.hid (HF4'.out.only NX4 (by decide) (by decide) O5 HG.out)
              have HO5 := Lib.hid (own_box HO4'.out NX4 (by decide) O5)
              have NA5 := NA4.only O5 HGN.out
              have HNX5 := Lib.hid N5
              have HNA5 := Lib.hid NA5
              have HRo5 := Lib.hid (own_box HRo4.out NX4 (by decide) O5)
              have a0 : w5.cell? ⟨wr.heap.size, 0, none⟩ = some (.int .i64 kd) := NA5.cell rfl
              have a1 : w5.cell? ⟨wr.heap.size, 1, none⟩ = some (.int .i64 k) := NA5.cell rfl
              have a2 : w5.cell? ⟨wr.heap.size, 2, none⟩ = some (.int .i64 t) := NA5.cell rfl
              clear NA4 NX4 NT4 N5 NA5 O5 t0 t1 HF4' HO4'
              
              have hK := HF5.out.tickK ht0 ht1
              obtain ⟨r1, hr1⟩ : ∃ r1, r1 = Wh.tickL (l.length + 1) l t := ⟨_, rfl⟩
              have ho1 := HO1.out
              have hT6 := HT6.out
              rw [← hr1] at hK ho1 hT6
              have hol : r1.1.length ≤ 256 := by
                have h1 := Wh.tick_len HT3.out.ok t
                rw [← hr1] at h1
                exact Nat.le_trans h1 HF5.out.sm.1
              subst ho1
              have HK := Lib.hid hK
              have HT7 := Lib.hid hT6
              clear hK HO1 HT6 hT6 hr1
              go_wp2_with fail
              refine HK.out.mono ?_
              rintro ee w6 ⟨B6, d6, rfl, hR6, hF6, hFr⟩
              have HF6 := Lib.hid hF6
              have HNX6 := Lib.hid (hFr.blk _ _ _ HNX5.out (by decide) (by decide))
              have HNA6 := Lib.hid (hFr.blk _ _ _ HNA5.out (by decide) (by decide))
              have HO6 := Lib.hid (hFr.row _ _ _ _ _ _ HO5.out (by decide) (by decide))
              have HRo6 := Lib.hid (hFr.row _ _ _ _ _ _ HRo5.out (by decide) (by decide))
              have HSm := Lib.hid (isame_spec B6 r1.1.length d6 B3 d3 (r1.1.map (·.k)) w6 (by have h := hR6; unfold ks at h; rw [List.map_map]; exact h) (by have h := Rd.of_own HRo6.out; unfold ks at h; rw [List.map_map]; exact h) (by omega))
              clear hF6 hFr HK HF5 HNX5 HNA5 HO5 a0 a1 a2 hR6
              go_wp2_with fail
              refine HSm.out.mono ?_
              rintro ee w6' ⟨rfl, hb6⟩
              have HF6' := Lib.hid (HF6.out.below hb6)
              have HNX6' := Lib.hid (HNX6.out.below hb6)
              have HNA6' := Lib.hid (HNA6.out.below hb6)
              have HO6' := Lib.hid (own_below HO6.out hb6)
              clear hb6 HSm HF6 HNX6 HNA6 HO6 HRo6
              go_upto_region 25 with (fail)
              have HF6 := HF6'
              have HNX6 := HNX6'
              have HNA6 := HNA6'
              have HO6 := HO6'
              have HT6 := HT7
              
              have HR6 : Hid ((R3).length ≤ 256) := Lib.hid (by rw [HT6.out.len]; exact HF6.out.sm.1)
              have a1 : w6'.cell? ⟨wr.heap.size, 1, none⟩ = some (.int .i64 k) := HNA6.out.cell rfl
              have HWn := Lib.hid (HF6.out.whenK HT6.out k)
              have x0 : w6'.cell? ⟨w2.heap.size, 0, none⟩ = some (.slice A3 (R3).length c3) := HNX6.out.cell rfl
              have x1 : w6'.cell? ⟨w2.heap.size, 1, none⟩ = some (.int .i64 t) := HNX6.out.cell rfl
              have HRw := Lib.hid (rwhen_spec A3 (R3).length c3 t k (R3) w6' (Rd.of_own HO6.out) HT6.out.dist (by have := HR6.out; omega))
              go_wp2_with fail
              refine HWn.out.mono ?_
              rintro ee w7 ⟨rfl, rfl⟩
              clear HWn
              go_wp2_with fail
              refine HRw.out.mono ?_
              rintro ee w8 ⟨rfl, hb8⟩
              have HF8 := Lib.hid (HF6.out.below hb8)
              have HNX8 := Lib.hid (HNX6.out.below hb8)
              have HO8 := Lib.hid (own_below HO6.out hb8)
              have x0 : w8.cell? ⟨w2.heap.size, 0, none⟩ = some (.slice A3 (R3).length c3) := HNX8.out.cell rfl
              have x1 : w8.cell? ⟨w2.heap.size, 1, none⟩ = some (.int .i64 t) := HNX8.out.cell rfl
              have HQ1 : Hid (∀ q, Calls Try.prog 12 #[.pointer (some ⟨gw, 0, none⟩)] (w8.drewN q) fun e w'' => e = .returned (.int .i64 (R3).length) ∧ ∃ m, w'' = w8.drewN m) := Lib.hid fun q => ((HF8.out.below (bel_n (Below.refl _ w8) q)).waits).mono (by rintro e w' ⟨rfl, rfl⟩; exact ⟨by rw [HT6.out.len], q, rfl⟩)
              have HQ2 : Hid (∀ q, Calls Try.prog 19 #[.pointer (some ⟨gw, 0, none⟩)] (w8.drewN q) fun e w'' => e = .returned (.int .i64 t) ∧ ∃ m, w'' = w8.drewN m) := Lib.hid fun q => ((HF8.out.below (bel_n (Below.refl _ w8) q)).nowc).mono (by rintro e w' ⟨rfl, rfl⟩; exact ⟨rfl, q, rfl⟩)
              obtain ⟨T1, hT1⟩ : ∃ T1, T1 = Wh.whenT (R3) k := ⟨_, rfl⟩
              obtain ⟨T2, hT2⟩ : ∃ T2, T2 = Wh.whenB (R3) k := ⟨_, rfl⟩
              rw [← hT1, ← hT2]
              clear hb8 HRw a1 hT1 hT2
              go_wp2_with fail
              go_quiet ((first | (go_at_call 12; exact HQ1.out _) | (go_at_call 19; exact HQ2.out _)))
              go_wp2_with fail
              go_roundg (gk - 1)
              case measure => omega
              case rel => exact ⟨i + 1, _, (R3), t, A3, c3, by omega, by omega, by omega, by go_num, HF8.out.below (bel_n (Below.refl _ w8) _), HNX8.out.below (bel_n (Below.refl _ w8) _), own_below HO8.out (bel_n (Below.refl _ w8) _), HT6.out⟩
      · have hi4z : ¬ (i : Int) < 300 := by omega
        go_wp2_with (first | (go_at_call 10; refine (tick_nil _ _).mono ?_; rintro e w' ⟨rfl, rfl⟩) | (go_at_call 13; refine (when_nil _ _).mono ?_; rintro e w' ⟨rfl, rfl⟩) | (go_at_call 9; refine (set_nil _ _ _).mono ?_; rintro e w' ⟨rfl, rfl⟩) | (go_at_call 14; refine (drop_nil _ _).mono ?_; rintro e w' ⟨rfl, rfl⟩) | (go_at_call 12; refine (waits_nil _).mono ?_; rintro e w' ⟨rfl, rfl⟩) | (go_at_call 19; refine (now_nil _).mono ?_; rintro e w' ⟨rfl, rfl⟩))
        go_ret
        exact ⟨rfl, bel_then Hb1.out HF3.out.bel⟩
    · obtain rfl : i = n := by omega
      clear hin
      go_wp2_with (first | (go_at_call 10; refine (tick_nil _ _).mono ?_; rintro e w' ⟨rfl, rfl⟩) | (go_at_call 13; refine (when_nil _ _).mono ?_; rintro e w' ⟨rfl, rfl⟩) | (go_at_call 9; refine (set_nil _ _ _).mono ?_; rintro e w' ⟨rfl, rfl⟩) | (go_at_call 14; refine (drop_nil _ _).mono ?_; rintro e w' ⟨rfl, rfl⟩) | (go_at_call 12; refine (waits_nil _).mono ?_; rintro e w' ⟨rfl, rfl⟩) | (go_at_call 19; refine (now_nil _).mono ?_; rintro e w' ⟨rfl, rfl⟩))
      go_ret
      exact ⟨rfl, bel_then Hb1.out HF3.out.bel⟩
end Go.Proofs.Ytlibhboibkajgaa
