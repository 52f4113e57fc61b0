/- The walk of CsumStands. -/
import Derived.Test.YtodcbejdlnikgaaCsumLaws3
namespace Go.Proofs.Ytodcbejdlnikgaa
open Go.RowKit
set_option linter.unusedVariables false
attribute [local go_sem] u64_low16 u32_low16 u16_not u16_signed u64_of_u16 u16_join
theorem own_set2' {w : World} {base : Nat} {e : TypeId} {n c g : Nat} {l : List Int} (h : w.ownsRow base e 1 (.slice (some ⟨g, 0, none⟩) n c) n (bs l)) (i j : Nat) (x y : Int) :
    ((w.setCell ⟨g, i, none⟩ (.int .u8 x)).setCell ⟨g, j, none⟩ (.int .u8 y)).ownsRow base e 1 (.slice (some ⟨g, 0, none⟩) n c) n (bs ((l.set i x).set j y)) := by
  have h1 := (h.stored i (.int .u8 x)).1
  have h2 := (h1.stored j (.int .u8 y)).1
  simpa [bs, List.map_set] using h2
theorem own_set1 {w : World} {base : Nat} {e : TypeId} {n c g : Nat} {l : List Int} (h : w.ownsRow base e 1 (.slice (some ⟨g, 0, none⟩) n c) n (bs l)) (i : Nat) (x : Int) :
    (w.setCell ⟨g, i, none⟩ (.int .u8 x)).ownsRow base e 1 (.slice (some ⟨g, 0, none⟩) n c) n (bs (l.set i x)) := by
  have h1 := (h.stored i (.int .u8 x)).1
  simpa [bs, List.map_set] using h1
set_option maxHeartbeats 1000000 in
theorem csum_stands (A : Option Addr) (n c : Nat) (l : List Int) (at_ bad q : Int) (w : World) (hR : Rd w 1 A n (bs l)) (hB : isB l) (hn : n ≤ c) (hc : c ≤ 9223372036854775807)
    (hat0 : -9223372036854775808 ≤ at_) (hat1 : at_ ≤ 9223372036854775807) (hbad0 : -9223372036854775808 ≤ bad) (hbad1 : bad ≤ 9223372036854775807) (hq0 : 0 ≤ q) (hq1 : q ≤ 255) :
    Calls Try.prog 4 #[.slice A n c, .int .i64 at_, .int .i64 bad, .int .u8 q] w fun e w' => e = .returned (.bool true) ∧ Below w.heap.size w w' := by
  obtain ⟨m, hmin, hm1, hm2, _⟩ := min_named n 3000
  have hmin' : (if (3000 : Int) < (n : Int) then (3000 : Int) else (n : Int)) = (m : Int) := hmin
  clear hmin
  have hr := hR.btake (m := m) (by omega)
  have hb := hB.take m
  clear hR hB
  by_cases hk : 0 ≤ at_ ∧ at_ < (m : Int) / 2
  · obtain ⟨k, rfl⟩ := Int.eq_ofNat_of_zero_le hk.1
    have hkm : 2 * k + 1 < m := by omega
    have hk' : (k : Int) < (m : Int) / 2 := by omega
    clear hk
    go_enter Try.func4, Try.ntmps4
    go_wp2_with (first
      | (go_at_call 13; refine (csum_awake _).mono ?_; rintro e w1 ⟨rfl, hbel1⟩)
      | (at_builtin; refine wpList_app0 _ rfl (.tmp 12) (.tmp 17) 22 rfl w hbel1 5 (.int .u8 0) 1 1 Try.underlying22 info_u8 rfl (by decide) rfl A _ _ (bs (l.take m)) rfl (by exact hr.below hbel1) (one_bs _) (by unfold maxLen; omega) (by omega) ?_; intro A1 c1 w2 hown1 hbel2 hg1 hat1; obtain ⟨g, rfl, hg0, hg2⟩ := own_head hown1 (by omega); obtain ⟨x, hx, hxl, hxm⟩ := own_cell hown1 (k := 2 * k) (by omega); obtain ⟨y, hy, hyl, hym⟩ := own_cell hown1 (k := 2 * k + 1) (by omega); have hf0 := hown1.frozenAt (2 * k); have hf1 := hown1.frozenAt (2 * k + 1); have hO := Lib.hid hown1; clear hown1))
    have hO2 := own_set2' hO.out (2 * k) (2 * k + 1) 0 0
    have hb3 : Below w.heap.size w ((w2.setCell ⟨g, 2 * k, none⟩ (.int .u8 0)).setCell ⟨g, 2 * k + 1, none⟩ (.int .u8 0)) := (hbel2.setCell hg0 _).setCell hg0 _
    have hlen : (l.take m).length = m := hr.blen
    obtain ⟨l1, hl1⟩ : ∃ l1, l1 = (((l.take m).set (2 * k) 0).set (2 * k + 1) 0) := ⟨_, rfl⟩
    have hb1 : isB l1 := by rw [hl1]; exact Csum.isB_set (Csum.isB_set hb _ ⟨by omega, by omega⟩) _ ⟨by omega, by omega⟩
    have hlen1 : l1.length = m := by rw [hl1, List.length_set, List.length_set, hlen]
    have hx1 : l1[2 * k]? = some 0 := by rw [hl1, List.getElem?_set_ne (by omega), List.getElem?_set_self (by omega)]
    have hy1 : l1[2 * k + 1]? = some 0 := by rw [hl1, List.getElem?_set_self (by rw [List.length_set]; omega)]
    rw [← hl1] at hO2
    obtain ⟨W, hW⟩ : ∃ W, W = ((w2.setCell ⟨g, 2 * k, none⟩ (.int .u8 0)).setCell ⟨g, 2 * k + 1, none⟩ (.int .u8 0)) := ⟨_, rfl⟩
    rw [← hW] at hO2 hb3 ⊢
    have hR2 := Rd.of_own hO2
    obtain ⟨l2, hl2⟩ : ∃ l2, l2 = ((l1.set (2 * k) ((65535 - Csum.sum l1) / 256)).set (2 * k + 1) ((65535 - Csum.sum l1) % 256)) := ⟨_, rfl⟩
    obtain ⟨p1, p2, p3⟩ := Csum.stands_plain l1 k hb1 (by omega) hx1 hy1 l2 hl2
    obtain ⟨s0, s1⟩ := Csum.sum_bd hb1
    obtain ⟨x', hx', _, _⟩ := own_cell hO2 (k := 2 * k) (by omega)
    obtain ⟨y', hy', _, _⟩ := own_cell hO2 (k := 2 * k + 1) (by omega)
    have hf0' := hO2.frozenAt (2 * k)
    have hf1' := hO2.frozenAt (2 * k + 1)
    have hO3 := own_set2' hO2 (2 * k) (2 * k + 1) ((65535 - Csum.sum l1) / 256) ((65535 - Csum.sum l1) % 256)
    have hb4 := (hb3.setCell (p := ⟨g, 2 * k, none⟩) hg0 (.int .u8 ((65535 - Csum.sum l1) / 256))).setCell (p := ⟨g, 2 * k + 1, none⟩) hg0 (.int .u8 ((65535 - Csum.sum l1) % 256))
    rw [← hl2] at hO3
    have hlen2 : l2.length = m := by rw [hl2, List.length_set, List.length_set, hlen1]
    have HO3 := Lib.hid hO3
    have P1 := Lib.hid p1
    have P3 := Lib.hid p3
    have HL2 := Lib.hid hlen2
    clear hx hy hf0 hf1 hO hg1 hat1 hbel1 hbel2 hr hW hl2 hxl hyl hxm hym hl1 hlen hlen1 hlen2 hx1 hy1 p1 p3 hO2 hO3 hb3
    refine (csum_of _ _ _ _ _ hR2 hb1 (by omega)).mono ?_
    rintro e w' ⟨rfl, rfl⟩
    clear hR2
    go_wp2_with fail
    obtain ⟨W3, hW3⟩ : ∃ W3, W3 = ((W.setCell ⟨g, 2 * k, none⟩ (.int .u8 ((65535 - Csum.sum l1) / 256))).setCell ⟨g, 2 * k + 1, none⟩ (.int .u8 ((65535 - Csum.sum l1) % 256))) := ⟨_, rfl⟩
    have hO3 := HO3.out
    clear HO3
    rw [← hW3] at hO3 hb4 ⊢
    clear hW3 hx' hy' hf0' hf1'
    have hR3 := Rd.of_own hO3
    refine (csum_sum _ _ _ _ _ hR3 p2 (by omega)).mono ?_
    rintro e w' ⟨rfl, rfl⟩
    rw [P1.out]
    clear hR3
    by_cases hbr : 0 ≤ bad ∧ bad < m
    · obtain ⟨j, rfl⟩ := Int.eq_ofNat_of_zero_le hbr.1
      have hj : j < m := by omega
      have hj' : (j : Int) < (m : Int) := by omega
      clear hbr
      obtain ⟨v, hv, hvl, hvm⟩ := own_cell hO3 hj
      obtain ⟨v0, v1⟩ := p2 v hvm
      have hfv := hO3.frozenAt j
      by_cases hq : q = 0
      · have hq' : (q == 0) = true := by rw [hq]; rfl
        clear hq hO3 hvm
        go_wp2
        go_ret
        exact ⟨rfl, hb4⟩
      · have hq' : (q == 0) = false := by rw [beq_eq_false_iff_ne]; exact hq
        obtain ⟨b0, b1, b2⟩ := Csum.xor_facts v q v0 v1 hq0 hq1 hq
        have hne := P3.out j v (bits .xor .u8 v q) hvl.out b0 b1 b2
        have hO4 := own_set1 hO3 j (bits .xor .u8 v q)
        have hb5 := hb4.setCell (p := ⟨g, j, none⟩) hg0 (.int .u8 (bits .xor .u8 v q))
        have hB4 : isB (l2.set j (bits .xor .u8 v q)) := Csum.isB_set p2 _ ⟨b0, b1⟩
        have hR4 := Rd.of_own hO4
        have hneb : (Csum.sum (l2.set j (bits .xor .u8 v q)) != 65535) = true := by rw [bne_iff_ne]; exact hne
        clear hq hO3 hvm b2 hne hO4
        go_wp2_with (go_at_call 16; refine (csum_sum _ _ _ _ _ hR4 hB4 (by omega)).mono ?_; rintro e w' ⟨rfl, rfl⟩)
        go_ret
        exact ⟨rfl, hb5⟩
    · clear hO3
      go_wp2
      all_goals
        go_ret
        exact ⟨rfl, hb4⟩
  · go_enter Try.func4, Try.ntmps4
    go_wp2_with (first
      | (go_at_call 13; refine (csum_awake _).mono ?_; rintro e w1 ⟨rfl, hbel1⟩)
      | (at_builtin; refine wpList_app0 _ rfl (.tmp 12) (.tmp 17) 22 rfl w hbel1 5 (.int .u8 0) 1 1 Try.underlying22 info_u8 rfl (by decide) rfl A _ _ (bs (l.take m)) rfl (by exact hr.below hbel1) (one_bs _) (by unfold maxLen; omega) (by omega) ?_; intro A1 c1 w2 hown1 hbel2 hg1 hat1))
    all_goals
      go_ret
      exact ⟨rfl, hbel2⟩
end Go.Proofs.Ytodcbejdlnikgaa
