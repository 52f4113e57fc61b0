/- The walk of the reference's Check. -/
import Derived.Test.YtpidpbjbgjkaaaaDoorCookRefT
import Derived.Test.YtpidpbjbgjkaaaaDoorQuietBel
namespace Go.Proofs.YtpidpbjbgjkaaaaDoor
open Go.RowKit
set_option maxRecDepth 8000
set_option linter.unusedVariables false
attribute [local go_sem ↓] Go.wp_at_zero Go.wp_at_succ
namespace Cook
def kA (t : Tup) (sq ep c : Int) (at_ : Nat) (l : List Int) : Bool := (one l t sq ep at_ == c) || (decide (0 < ep) && (one l t sq (ep - 1) at_ == c))
theorem found {ls : List (List Int)} {t : Tup} {sq ep c : Int} (hm : may t ep = true) (hl : ls.length ≤ 2) {l : List Int} (hmem : l ∈ ls) {at_ : Nat} (ha : at_ ≤ 7) (h : kA t sq ep c at_ l = true) : checkB ls t sq ep c = true ∧ checkN ls t sq ep c = sizeAt at_ := by
  have he : 0 ≤ ep := by simp [may] at hm; omega
  have key : checkB ls t sq ep c = true ∧ c / 16777216 % 8 = at_ := by
    unfold kA at h
    rw [Bool.or_eq_true, Bool.and_eq_true] at h
    rcases h with h | ⟨h1, h⟩
    · have h : one l t sq ep at_ = c := by simpa using h
      have hp := one_parts l t sq ep (pl := at_) (by omega) (by omega)
      rw [h] at hp
      have hh : hit ls t sq ep (c / 16777216 % 8) c = true := by
        rw [hp.2.2.1]; unfold hit; rw [List.any_eq_true]; exact ⟨l, hmem, by simpa using h⟩
      refine ⟨?_, hp.2.2.1⟩
      unfold checkB
      rw [hm, hh, hp.2.2.2.1]
      simp [hl]
    · have h1 : 0 < ep := by simpa using h1
      have h : one l t sq (ep - 1) at_ = c := by simpa using h
      have hp := one_parts l t sq (ep - 1) (pl := at_) (by omega) (by omega)
      rw [h] at hp
      have hh : hit ls t sq (ep - 1) (c / 16777216 % 8) c = true := by
        rw [hp.2.2.1]; unfold hit; rw [List.any_eq_true]; exact ⟨l, hmem, by simpa using h⟩
      refine ⟨?_, hp.2.2.1⟩
      unfold checkB
      rw [hm, hh, hp.2.2.2.1]
      have h1' : 1 ≤ ep := h1
      simp [hl, h1']
  refine ⟨key.1, ?_⟩
  unfold checkN
  rw [if_pos key.1, key.2, Int.toNat_natCast]
theorem missed {ls : List (List Int)} {t : Tup} {sq ep c : Int} (hc : 0 ≤ c) (h : ∀ at_, at_ < 8 → ∀ l ∈ ls, kA t sq ep c at_ l = false) : checkB ls t sq ep c = false := by
  cases hB : checkB ls t sq ep c
  · rfl
  · exfalso
    obtain ⟨p, hp⟩ : ∃ p : Nat, c / 16777216 % 8 = p := ⟨(c / 16777216 % 8).toNat, by omega⟩
    have hp8 : p < 8 := by omega
    unfold checkB at hB
    rw [hp, Bool.and_eq_true, Bool.or_eq_true, Bool.and_eq_true, Bool.and_eq_true] at hB
    rcases hB.2 with ⟨_, hh⟩ | hh
    · unfold hit at hh
      rw [List.any_eq_true] at hh
      obtain ⟨l, hl, h2⟩ := hh
      have := h p hp8 l hl
      unfold kA at this
      rw [h2] at this
      simp at this
    · rw [Bool.and_eq_true] at hh
      obtain ⟨h1, hh⟩ := hh
      unfold hit at hh
      rw [List.any_eq_true] at hh
      obtain ⟨l, hl, h2⟩ := hh
      have := h p hp8 l hl
      unfold kA at this
      have h1 : 0 < ep := by rw [decide_eq_true_iff] at h1; omega
      rw [h2] at this
      simp [h1] at this
end Cook
set_option maxHeartbeats 4000000 in
theorem rcheck_spec (A : Option Addr) (n c : Nat) (rs : List Mac.Key) (t : Cook.Tup) (hw : t.wf) (sq ep ck : Int) (hs0 : 0 ≤ sq) (hs1 : sq ≤ 4294967295) (hc0 : 0 ≤ ck) (hc1 : ck ≤ 4294967295) (w : World) (hT : TabK w) (hr : Mac.Ring w A n rs) (hbig : n ≤ 9223372036854775807) :
    Calls Tryd.prog 31 #[.slice A n c, .agg #[.int .i64 t.proto, .int .u32 t.src, .int .i64 t.sport, .int .u32 t.dst, .int .i64 t.dport], .int .u32 sq, .int .i64 ep, .int .u32 ck] w fun e w' => e = .returned (.tuple #[.int .i64 (Cook.checkN (rs.map (·.l)) t sq ep ck), .bool (Cook.checkB (rs.map (·.l)) t sq ep ck)]) ∧ Below w.heap.size w w' := by
  obtain ⟨W, hW⟩ : ∃ W, W = w.alloc (.cells #[.int .i64 t.proto, .int .u32 t.src, .int .i64 t.sport, .int .u32 t.dst, .int .i64 t.dport] 25) := ⟨_, rfl⟩
  have hbW : Below w.heap.size w W := by rw [hW]; exact (Below.refl _ _).alloc (Nat.le_refl _) _
  have K5 := Lib.hid (tup_c5 W t w.heap.size (by rw [hW]; exact BlkV.new _ _ _))
  obtain ⟨a0, a1, a2, a3, a4⟩ := K5.out W (Below.refl _ _)
  have hl := hr.len
  have HC := Lib.hid (rright_spec t W)
  have HMY : Hid (Cook.may t ep = (t.right && decide (0 ≤ ep ∧ ep ≤ 2147483647))) := Lib.hid rfl
  obtain ⟨b, hb⟩ : ∃ b, Cook.checkB (rs.map (·.l)) t sq ep ck = b := ⟨_, rfl⟩
  obtain ⟨nn, hnn⟩ : ∃ nn, Cook.checkN (rs.map (·.l)) t sq ep ck = nn := ⟨_, rfl⟩
  have HF : Hid (Cook.may t ep = true → n ≤ 2 → ∀ (k : Mac.Key) (a : Nat), k ∈ rs → a ≤ 7 → Cook.kA t sq ep ck a k.l = true → b = true ∧ nn = Cook.sizeAt a) := Lib.hid fun hm h2 k a hk ha h => by
    rw [← hb, ← hnn]
    exact Cook.found hm (by rw [List.length_map]; omega) (List.mem_map.2 ⟨k, hk, rfl⟩) ha h
  have HZ : Hid ((∀ a, a < 8 → ∀ k ∈ rs, Cook.kA t sq ep ck a k.l = false) → b = false ∧ nn = 0) := Lib.hid fun h => by
    have hB : b = false := by
      rw [← hb]
      exact Cook.missed hc0 fun a ha l hl' => by
        obtain ⟨k, hk, rfl⟩ := List.mem_map.1 hl'
        exact h a ha k hk
    refine ⟨hB, ?_⟩
    rw [← hnn]
    unfold Cook.checkN
    rw [hb, hB]
    rfl
  have HZ2 : Hid ((Cook.may t ep = false ∨ 2 < n) → b = false ∧ nn = 0) := Lib.hid fun h => by
    have hB : b = false := by
      rw [← hb]
      unfold Cook.checkB
      rcases h with h | h
      · rw [h]; rfl
      · rw [decide_eq_false (by rw [List.length_map]; omega)]; simp
    refine ⟨hB, ?_⟩
    rw [← hnn]
    unfold Cook.checkN
    rw [hb, hB]
    rfl
  rw [hb, hnn]
  clear hb hnn
  have HO : Hid (0 ≤ ep → ∀ (k : Mac.Key), k ∈ rs → ∀ (a : Nat) (w1 : World), a ≤ 7 → Below W.heap.size W w1 → (∀ w2, Below w1.heap.size w1 w2 → Calls Tryd.prog 48 #[.slice k.A k.n k.c, .agg #[.int .i64 t.proto, .int .u32 t.src, .int .i64 t.sport, .int .u32 t.dst, .int .i64 t.dport], .int .u32 sq, .int .i64 ep, .int .i64 a] w2 fun e w' => e = .returned (.int .u32 (Cook.one k.l t sq ep a)) ∧ Below w2.heap.size w2 w') ∧ (1 ≤ ep → ∀ w2, Below w1.heap.size w1 w2 → Calls Tryd.prog 48 #[.slice k.A k.n k.c, .agg #[.int .i64 t.proto, .int .u32 t.src, .int .i64 t.sport, .int .u32 t.dst, .int .i64 t.dport], .int .u32 sq, .int .i64 (ep - 1), .int .i64 a] w2 fun e w' => e = .returned (.int .u32 (Cook.one k.l t sq (ep - 1) a)) ∧ Below w2.heap.size w2 w')) := Lib.hid fun he k hk a w1 ha hb1 => by
    have hkk := hr.keys k hk
    refine ⟨fun w2 hb2 => ?_, fun h1 w2 hb2 => ?_⟩
    · exact rone_spec k.A k.n k.c k.l t hw sq ep a hs0 hs1 he (by omega) (by omega) w2 (((hT.below hbW).below hb1).below hb2) (((hkk.rd.below hbW).below hb1).below hb2) hkk.by8 hkk.small
    · exact rone_spec k.A k.n k.c k.l t hw sq (ep - 1) a hs0 hs1 (by omega) (by omega) (by omega) w2 (((hT.below hbW).below hb1).below hb2) (((hkk.rd.below hbW).below hb1).below hb2) hkk.by8 hkk.small
  have HRW := Lib.hid (hr.below hbW)
  clear hT hr
  generalize Cook.may t ep = m at HMY HF HZ2
  generalize t.right = rt at HC HMY
  rcases (show rt = false ∨ (rt = true ∧ ep < 0) ∨ (rt = true ∧ 0 ≤ ep ∧ 2147483647 < ep) ∨ (rt = true ∧ 0 ≤ ep ∧ ep ≤ 2147483647 ∧ 2 < n) ∨ (rt = true ∧ 0 ≤ ep ∧ ep ≤ 2147483647 ∧ n ≤ 2) by cases rt <;> simp <;> omega) with rfl | ⟨rfl, h1⟩ | ⟨rfl, h1, h2⟩ | ⟨rfl, h1, h2, h3⟩ | ⟨rfl, h1, h2, h3⟩
  case inr.inr.inr.inl =>
    have hz : (2 : Int) < (n : Int) := by omega
    obtain ⟨rfl, rfl⟩ := HZ2.out (.inr h3)
    go_enter Tryd.func31, Tryd.ntmps31
    go_upto_region 1 with (fail)
    rw [← hW]
    clear hW
    go_wp2_with fail
    refine HC.out.mono ?_
    rintro e w1 ⟨rfl, hb1⟩
    go_wp2_with fail
    go_ret2
    exact ⟨rfl, bel_then hbW hb1⟩
  case inr.inr.inr.inr =>
    have hz : ¬ (2 : Int) < (n : Int) := by omega
    have hm : m = true := by rw [HMY.out]; simp [h1, h2]
    subst hm
    go_enter Tryd.func31, Tryd.ntmps31
    go_upto_region 1 with (fail)
    rw [← hW]
    clear hW
    go_wp2_with fail
    refine HC.out.mono ?_
    rintro e w1 ⟨rfl, hb1⟩
    obtain ⟨W1, hW1⟩ : ∃ W1, W1 = w1.alloc (.cells #[.int .i64 536, .int .i64 1200, .int .i64 1220, .int .i64 1300, .int .i64 1400, .int .i64 1440, .int .i64 1452, .int .i64 1460] 88) := ⟨_, rfl⟩
    have hb2 : Below W.heap.size W W1 := by rw [hW1]; exact hb1.alloc hb1.size _
    have BP : BlkV W1 w1.heap.size 88 (Cook.sizes.map (Value.int .i64)) := by rw [hW1]; exact heap_alloc_new w1 _
    have HBP := Lib.hid BP
    clear BP a0 a1 a2 a3 a4 HC HMY HZ2
    go_upto_region 4 with (fail)
    rw [← hW1]
    clear hW1
    go_wp2_with fail
    go_loopg [13] 8 (fun gg s13 wx => ∃ at_ : Nat, at_ + gg = 8 ∧ s13 = .int .i64 at_ ∧ Below W1.heap.size W1 wx ∧ Hid (∀ j, j < at_ → ∀ k ∈ rs, Cook.kA t sq ep ck j k.l = false))
    case atStart => exact ⟨0, by omega, rfl, Below.refl _ _, Lib.hid fun j hj => absurd hj (by omega)⟩
    case round =>
      obtain ⟨at_, hat, rfl, hbx, hall⟩ := hrel
      cases gk with
      | zero =>
        obtain rfl : at_ = 8 := by omega
        have hbF := bel_then hbW (bel_then hb2 hbx)
        obtain ⟨rfl, rfl⟩ := HZ.out hall.out
        clear HF HO HRW HBP
        go_wp2_with fail
        go_ret2
        exact ⟨rfl, hbF⟩
      | succ g =>
        have ha7 : at_ ≤ 7 := by omega
        have ha8 : (at_ : Int) < 8 := by omega
        obtain ⟨wo, rfl⟩ : ∃ wo : World, wo = wr := ⟨_, rfl⟩
        go_wp2_with fail
        go_loopg [14] n (fun g2 s14 wy => ∃ i : Nat, i + g2 = n ∧ s14 = .int .i64 i ∧ Below W1.heap.size W1 wy ∧ Hid (∀ j, j < i → ∀ k, rs[j]? = some k → Cook.kA t sq ep ck at_ k.l = false))
        case atStart => exact ⟨0, by omega, rfl, hbx, Lib.hid fun j hj => absurd hj (by omega)⟩
        case round =>
          obtain ⟨i, hin, rfl, hby, hpre⟩ := hrel
          cases gk with
          | zero =>
            obtain rfl : i = n := by omega
            have HM : Hid (∀ j, j < at_ + 1 → ∀ k ∈ rs, Cook.kA t sq ep ck j k.l = false) := Lib.hid fun j hj k hk => by
              rcases (show j = at_ ∨ j < at_ by omega) with rfl | h
              · obtain ⟨q, hq⟩ := List.mem_iff_getElem?.1 hk
                exact hpre.out q (by have := (List.getElem?_eq_some_iff.1 hq).1; omega) k hq
              · exact hall.out j h k hk
            clear HF HO HRW HBP HZ hpre hall
            go_wp2_with fail
            go_roundg g
            case measure => omega
            case rel => exact ⟨at_ + 1, by omega, by go_num, hby, HM⟩
          | succ g2 =>
            have hi : i < n := by omega
            have hiz : (i : Int) < (n : Int) := by omega
            obtain ⟨b0, off, ⟨kA, kn, kc, kl⟩, hAe, hbs, hc, hmem, hk⟩ := (HRW.out.below (bel_then hb2 hby)).cell hi
            obtain ⟨hO1, hO2⟩ := HO.out h1 ⟨kA, kn, kc, kl⟩ hmem at_ wr ha7 (bel_then hb2 hby)
            simp only at hc hO1 hO2
            have hKA : Hid (Cook.kA t sq ep ck at_ kl = ((Cook.one kl t sq ep at_ == ck) || (decide (0 < ep) && (Cook.one kl t sq (ep - 1) at_ == ck)))) := Lib.hid rfl
            generalize Cook.one kl t sq ep at_ = v0 at hO1 hKA
            generalize Cook.one kl t sq (ep - 1) at_ = v1 at hO2 hKA
            have H1 := Lib.hid hO1
            have H2 := Lib.hid hO2
            have HK6 : Hid (∀ w' : World, Below wr.heap.size wr w' → w'.cell? ⟨w.heap.size, 0, none⟩ = some (.int .i64 t.proto) ∧ w'.cell? ⟨w.heap.size, 1, none⟩ = some (.int .u32 t.src) ∧ w'.cell? ⟨w.heap.size, 2, none⟩ = some (.int .i64 t.sport) ∧ w'.cell? ⟨w.heap.size, 3, none⟩ = some (.int .u32 t.dst) ∧ w'.cell? ⟨w.heap.size, 4, none⟩ = some (.int .i64 t.dport) ∧ w'.cell? ⟨b0, off + i, none⟩ = some (.slice kA kn kc)) := Lib.hid fun w' hb => by
              obtain ⟨e0, e1, e2, e3, e4⟩ := K5.out w' (bel_then (bel_then hb2 hby) hb)
              exact ⟨e0, e1, e2, e3, e4, (hb.cell (p := ⟨b0, off + i, none⟩) hbs).trans hc⟩
            have HFF : Hid (Cook.kA t sq ep ck at_ kl = true → b = true ∧ nn = Cook.sizeAt at_) := Lib.hid fun h => HF.out (by simp) h3 _ at_ hmem ha7 h
            have HPP : Hid (Cook.kA t sq ep ck at_ kl = false → ∀ j, j < i + 1 → ∀ k, rs[j]? = some k → Cook.kA t sq ep ck at_ k.l = false) := Lib.hid fun h j hj k hjk => by
              rcases (show j = i ∨ j < i by omega) with rfl | hj'
              · have := hk.out
                rw [hjk] at this
                injection this with this
                rw [this]
                exact h
              · exact hpre.out j hj' k hjk
            have hbF := bel_then hbW (bel_then hb2 hby)
            have hbp := HBP.out.below hby
            have hac := hbp.cell (Cook.size_get ha7)
            have hal := hbp.lt
            subst hAe
            have a0 : ∀ p : BelBy wr, p.v.cell? ⟨w.heap.size, 0, none⟩ = some (.int .i64 t.proto) := fun p => (HK6.out p.v p.h).1
            have a1 : ∀ p : BelBy wr, p.v.cell? ⟨w.heap.size, 1, none⟩ = some (.int .u32 t.src) := fun p => (HK6.out p.v p.h).2.1
            have a2 : ∀ p : BelBy wr, p.v.cell? ⟨w.heap.size, 2, none⟩ = some (.int .i64 t.sport) := fun p => (HK6.out p.v p.h).2.2.1
            have a3 : ∀ p : BelBy wr, p.v.cell? ⟨w.heap.size, 3, none⟩ = some (.int .u32 t.dst) := fun p => (HK6.out p.v p.h).2.2.2.1
            have a4 : ∀ p : BelBy wr, p.v.cell? ⟨w.heap.size, 4, none⟩ = some (.int .i64 t.dport) := fun p => (HK6.out p.v p.h).2.2.2.2.1
            have a5 : ∀ p : BelBy wr, p.v.cell? ⟨b0, off + i, none⟩ = some (.slice kA kn kc) := fun p => (HK6.out p.v p.h).2.2.2.2.2
            clear hO1 hO2 hc hmem hk hpre HF HZ HO HRW
            by_cases hv0 : v0 = ck
            · subst hv0
              obtain ⟨rfl, rfl⟩ := HFF.out (by rw [hKA.out]; simp)
              clear HFF HPP hKA H2
              go_upto_region 10 with (fail)
              refine wp_region_quiet_bel (by kernel_rfl) (by kernel_rfl) ?_
              repeat (go_big_quiet_step (exact calls_bel (H1.out _ (BelBy.h _))))
              refine wpQuiet_nil ?_
              intro _ hw'
              obtain ⟨⟨wq, hbq⟩, hw''⟩ := hw'
              have hw3 : _ = wq := hw''
              clear hw''
              subst hw3
              have hac := (hbp.below hbq).cell (Cook.size_get ha7)
              have hal := (hbp.below hbq).lt
              go_wp2_with fail
              go_ret2
              exact ⟨rfl, bel_then hbF hbq⟩
            · have hq0 : (v0 == ck) = false := by simp [hv0]
              by_cases hep : 0 < ep
              · have H2' := Lib.hid (H2.out (by omega))
                clear H2
                by_cases hv1 : v1 = ck
                · subst hv1
                  obtain ⟨rfl, rfl⟩ := HFF.out (by rw [hKA.out]; simp [hep])
                  clear HFF HPP hKA
                  go_upto_region 10 with (fail)
                  refine wp_region_quiet_bel (by kernel_rfl) (by kernel_rfl) ?_
                  repeat (go_big_quiet_step (with_reducible first | exact calls_bel (H1.out _ (BelBy.h _)) | exact calls_bel (H2'.out _ (BelBy.h _))))
                  refine wpQuiet_nil ?_
                  intro _ hw'
                  obtain ⟨⟨wq, hbq⟩, hw''⟩ := hw'
                  have hw3 : _ = wq := hw''
                  clear hw''
                  subst hw3
                  have hac := (hbp.below hbq).cell (Cook.size_get ha7)
                  have hal := (hbp.below hbq).lt
                  go_wp2_with fail
                  go_ret2
                  exact ⟨rfl, bel_then hbF hbq⟩
                · have hK0 : Hid (Cook.kA t sq ep ck at_ kl = false) := Lib.hid (by rw [hKA.out]; simp [hv0, hv1])
                  have hq1 : (v1 == ck) = false := by simp [hv1]
                  clear HFF hKA
                  go_upto_region 10 with (fail)
                  refine wp_region_quiet_bel (by kernel_rfl) (by kernel_rfl) ?_
                  repeat (go_big_quiet_step (with_reducible first | exact calls_bel (H1.out _ (BelBy.h _)) | exact calls_bel (H2'.out _ (BelBy.h _))))
                  refine wpQuiet_nil ?_
                  intro _ hw'
                  obtain ⟨⟨wq, hbq⟩, hw''⟩ := hw'
                  have hw3 : _ = wq := hw''
                  clear hw''
                  subst hw3
                  have HPQ := Lib.hid (HPP.out hK0.out)
                  have hbY := bel_then hby hbq
                  go_wp2_with fail
                  go_roundg g2
                  case measure => omega
                  case rel => exact ⟨i + 1, by omega, by go_num, hbY, HPQ⟩
              · have hK0 : Hid (Cook.kA t sq ep ck at_ kl = false) := Lib.hid (by rw [hKA.out]; simp [hv0, hep])
                have hqe : decide (0 < ep) = false := by simp; omega
                clear HFF hKA H2
                go_upto_region 10 with (fail)
                refine wp_region_quiet_bel (by kernel_rfl) (by kernel_rfl) ?_
                repeat (go_big_quiet_step (first | exact calls_bel (H1.out _ (BelBy.h _))))
                refine wpQuiet_nil ?_
                intro _ hw'
                obtain ⟨⟨wq, hbq⟩, hw''⟩ := hw'
                have hw3 : _ = wq := hw''
                clear hw''
                subst hw3
                have HPQ := Lib.hid (HPP.out hK0.out)
                have hbY := bel_then hby hbq
                go_wp2_with fail
                go_roundg g2
                case measure => omega
                case rel => exact ⟨i + 1, by omega, by go_num, hbY, HPQ⟩
  all_goals
    have hm : m = false := by rw [HMY.out]; simp <;> omega
    subst hm
    obtain ⟨rfl, rfl⟩ := HZ2.out (.inl rfl)
    go_enter Tryd.func31, Tryd.ntmps31
    go_upto_region 1 with (fail)
    rw [← hW]
    clear hW
    go_wp2_with fail
    refine HC.out.mono ?_
    rintro e w1 ⟨rfl, hb1⟩
    go_wp2_with fail
    go_ret2
    exact ⟨rfl, bel_then hbW hb1⟩
end Go.Proofs.YtpidpbjbgjkaaaaDoor
