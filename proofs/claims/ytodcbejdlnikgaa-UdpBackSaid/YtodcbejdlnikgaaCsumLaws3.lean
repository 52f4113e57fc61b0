/- The walks of the laws over package csum that write into a copy. -/
import Derived.Test.YtodcbejdlnikgaaCsumLaws2
import Derived.Test.YtodcbejdlnikgaaCsumPlain2
namespace Go.Proofs.Ytodcbejdlnikgaa
open Go.RowKit
set_option linter.unusedVariables false
theorem u16_join (x y : Int) (hx0 : 0 ≤ x) (hx1 : x ≤ 255) (hy0 : 0 ≤ y) (hy1 : y ≤ 255) : bits .or .u16 (x * 256) y = x * 256 + y := by
  obtain ⟨a, rfl⟩ := Int.eq_ofNat_of_zero_le hx0
  obtain ⟨b, rfl⟩ := Int.eq_ofNat_of_zero_le hy0
  rw [u16_or _ _ (by omega) (by omega) (by omega) (by omega)]
  have e1 : ((a : Int) * 256).toNat = a * 256 := by omega
  rw [e1, Int.toNat_natCast, nat_join 8 (a * 256) b (by omega) (by omega)]
  omega
attribute [local go_sem] u64_low16 u32_low16 u16_not u16_signed u64_of_u16 u16_join
theorem own_head {w : World} {base : Nat} {e : TypeId} {s n c : Nat} {A : Option Addr} {xs : List Value} (h : w.ownsRow base e s (.slice A n c) n xs) (hn : 0 < n) : ∃ g, A = some ⟨g, 0, none⟩ ∧ base ≤ g ∧ g < w.heap.size := by
  rcases h.2 with ⟨hv, h0⟩ | ⟨g, cap, cur, hv, hb, hg, r⟩
  · omega
  · injection hv with hA
    exact ⟨g, hA, hb, (Array.getElem?_eq_some_iff.1 hg).1⟩
theorem own_cell {w : World} {base : Nat} {e : TypeId} {n c g : Nat} {l : List Int} (h : w.ownsRow base e 1 (.slice (some ⟨g, 0, none⟩) n c) n (bs l)) {k : Nat} (hk : k < n) :
    ∃ x, w.cell? ⟨g, k, none⟩ = some (.int .u8 x) ∧ Hid (l[k]? = some x) ∧ x ∈ l := by
  have hl : l.length = n := by have := h.1; rw [bs_len] at this; omega
  refine ⟨l[k], ?_, List.getElem?_eq_getElem (by omega), List.getElem_mem _⟩
  rw [h.cellAt k (by omega)]
  exact bs_get l k (by omega)
theorem own_set2 {w : World} {base : Nat} {e : TypeId} {n c g : Nat} {l : List Int} (h : w.ownsRow base e 1 (.slice (some ⟨g, 0, none⟩) n c) n (bs l)) (q i j : Nat) (x y : Int) :
    (((w.drewN q).setCell ⟨g, i, none⟩ (.int .u8 x)).setCell ⟨g, j, none⟩ (.int .u8 y)).ownsRow base e 1 (.slice (some ⟨g, 0, none⟩) n c) n (bs ((l.set i x).set j y)) := by
  have h0 : (w.drewN q).ownsRow base e 1 (.slice (some ⟨g, 0, none⟩) n c) n (bs l) := h
  have h1 := (h0.stored i (.int .u8 x)).1
  have h2 := (h1.stored j (.int .u8 y)).1
  simpa [bs, List.map_set] using h2
theorem bs_set (l : List Int) (k : Nat) (x : Int) : (bs l).set k (.int .u8 x) = bs (l.set k x) := by simp [bs, List.map_set]
set_option maxHeartbeats 1000000 in
theorem csum_mends (A : Option Addr) (n c : Nat) (l : List Int) (at_ now : Int) (w : World) (hR : Rd w 1 A n (bs l)) (hB : isB l) (hn : n ≤ c) (hc : c ≤ 9223372036854775807)
    (hat0 : -9223372036854775808 ≤ at_) (hat1 : at_ ≤ 9223372036854775807) (hnow0 : 0 ≤ now) (hnow1 : now ≤ 65535) :
    Calls Try.prog 3 #[.slice A n c, .int .i64 at_, .int .u16 now] w fun e w' => e = .returned (.bool true) ∧ Below w.heap.size w w' := by
  obtain ⟨m, hmin, hm1, hm2, _⟩ := min_named n 3000
  have hmin' : (if (3000 : Int) < (n : Int) then (3000 : Int) else (n : Int)) = (m : Int) := hmin
  clear hmin
  have hr := hR.btake (m := m) (by omega)
  have hb := hB.take m
  clear hR hB
  go_enter Try.func3, Try.ntmps3
  go_wp2_with (first
    | (go_at_call 13; refine (csum_awake _).mono ?_; rintro e w1 ⟨rfl, hbel1⟩)
    | (at_builtin; refine wpList_app0 _ rfl (.tmp 13) (.tmp 18) 22 rfl w hbel1 5 (.int .u8 0) 1 1 Try.underlying22 info_u8 rfl (by decide) rfl A _ _ (bs (l.take m)) rfl (by exact hr.below hbel1) (one_bs _) (by unfold maxLen; omega) (by omega) ?_; intro A1 c1 w2 hown1 hbel2 hg1 hat1))
  · go_ret
    exact ⟨rfl, hbel2⟩
  · have hk : 0 ≤ at_ ∧ at_ < (m : Int) / 2 := by assumption
    obtain ⟨k, rfl⟩ := Int.eq_ofNat_of_zero_le hk.1
    have hkm : 2 * k + 1 < m := by omega
    have hR1 := Rd.of_own hown1
    obtain ⟨g, rfl, hg0, hg2⟩ := own_head hown1 (by omega)
    obtain ⟨x, hx, hxl, hxm⟩ := own_cell hown1 (k := 2 * k) (by omega)
    obtain ⟨y, hy, hyl, hym⟩ := own_cell hown1 (k := 2 * k + 1) (by omega)
    obtain ⟨x0, x1⟩ := hb x hxm
    obtain ⟨y0, y1⟩ := hb y hym
    have hf0 := hown1.frozenAt (2 * k)
    have hf1 := hown1.frozenAt (2 * k + 1)
    have hO := Lib.hid hown1
    clear hown1 hxm hym hk
    refine (csum_of _ _ _ _ _ hR1 hb (by omega)).mono ?_
    rintro e w' ⟨rfl, rfl⟩
    clear hR1
    go_wp2_with fail
    go_quiet (fail)
    go_wp2_with fail
    have hO2 := own_set2 hO.out nq (2 * k) (2 * k + 1) (now / 256) (now % 256)
    have hb3 : Below w.heap.size w (((w2.drewN nq).setCell ⟨g, 2 * k, none⟩ (.int .u8 (now / 256))).setCell ⟨g, 2 * k + 1, none⟩ (.int .u8 (now % 256))) :=
      ((below_drewN hbel2 _).setCell hg0 _).setCell hg0 _
    obtain ⟨p1, p2⟩ := Csum.mends_plain (l.take m) k x y now hb hxl.out hyl.out hnow0 hnow1 _ rfl
    obtain ⟨l2, hl2⟩ : ∃ l2, l2 = (((l.take m).set (2 * k) (now / 256)).set (2 * k + 1) (now % 256)) := ⟨_, rfl⟩
    have hbb : isB l2 := by rw [hl2]; exact Csum.isB_set (Csum.isB_set hb _ ⟨by omega, by omega⟩) _ ⟨by omega, by omega⟩
    rw [← hl2] at hO2 p1 p2
    obtain ⟨W, hW⟩ : ∃ W, W = (((w2.drewN nq).setCell ⟨g, 2 * k, none⟩ (.int .u8 (now / 256))).setCell ⟨g, 2 * k + 1, none⟩ (.int .u8 (now % 256))) := ⟨_, rfl⟩
    rw [← hW] at hO2 hb3 ⊢
    have hR2 := Rd.of_own hO2
    have hll := hR2.blen
    have HP1 := Lib.hid p1
    have HP2 := Lib.hid p2
    obtain ⟨s0, s1⟩ := Csum.sum_bd hb
    obtain ⟨s2, s3⟩ := Csum.sum_bd hbb
    have HL := Lib.hid hll
    clear hx hy hf0 hf1 hO hg1 hat1 hbel1 hbel2 hr hW hl2 hxl hyl p1 p2 hll
    go_loop [9, 10] (fun z i => ∃ j : Nat, j ≤ m ∧ i = .int .i64 j ∧ z = .bool (Csum.allz (l2.take j))) (fun _ i => m - (intOf i).toNat)
    case atStart => exact ⟨0, by omega, rfl, rfl⟩
    case round =>
      obtain ⟨j, hj, rfl, rfl⟩ := hrel
      by_cases hlt : j < m
      · obtain ⟨v, hv, hvl, hvm⟩ := own_cell hO2 hlt
        have hs := Csum.allz_take l2 j v hvl.out
        cases hz : Csum.allz (l2.take j)
        · rw [hz, Bool.false_and] at hs
          have HS := Lib.hid hs
          clear hs hz hvl hvm hO2 hR2
          go_wp2
          go_round
          case rel => exact ⟨j + 1, by omega, by go_num, by rw [HS.out]⟩
          case measure => simp [intOf]; omega
        · rw [hz, Bool.true_and] at hs
          have HS := Lib.hid hs
          clear hs hz hvl hvm hO2 hR2
          go_wp2
          go_round
          case rel => exact ⟨j + 1, by omega, by go_num, by rw [HS.out]⟩
          case measure => simp [intOf]; omega
      · have hr : l2.take j = l2 := List.take_of_length_le (by have := HL.out; omega)
        rw [hr]
        clear hr
        cases hz : Csum.allz l2
        · have hE := HP2.out hz
          clear HP1 HP2 hz hO2
          go_wp2_with (first | (go_at_call 14; refine (csum_of _ _ _ _ _ hR2 hbb (by omega)).mono ?_; rintro e w' ⟨rfl, rfl⟩) | (go_at_call 15; refine (csum_mend _ _ _ _ (by omega) (by omega) (by omega) (by omega) (by omega) (by omega)).mono ?_; rintro e w' ⟨rfl, rfl⟩))
          go_ret
          exact ⟨rfl, hb3⟩
        · have hE := HP1.out hz
          clear HP1 HP2 hz hO2
          go_wp2_with (go_at_call 14; refine (csum_of _ _ _ _ _ hR2 hbb (by omega)).mono ?_; rintro e w' ⟨rfl, rfl⟩)
          go_ret
          exact ⟨rfl, hb3⟩
  · go_ret
    exact ⟨rfl, hbel2⟩
end Go.Proofs.Ytodcbejdlnikgaa
