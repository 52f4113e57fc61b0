/- The walk of MacTurns. -/
import Derived.Test.YtjikegapljdddaaDoorMacTurn
import Derived.Test.YtjikegapljdddaaDoorMacAw
namespace Go.Proofs.YtjikegapljdddaaDoor
open Go.RowKit
set_option linter.unusedVariables false
namespace Mac
theorem tooLong_no {l : List Int} (h : l.length ≤ 128) : tooLong l = false := by unfold tooLong; rw [decide_eq_false_iff_not]; omega
theorem turn0 {a : List Int} (ha : a.length ≤ 128) : turn [] a = [a] ∧ turnE [] a = 0 := by
  have h : right [] = true := rfl
  unfold turn turnE
  rw [if_pos ⟨h, ha⟩, if_pos ⟨h, ha⟩]
  exact ⟨rfl, rfl⟩
theorem turn1 {a b : List Int} (ha : a.length ≤ 128) (hb : b.length ≤ 128) : turn [a] b = [b, a] ∧ turnE [a] b = 0 := by
  have h : right [a] = true := by simp [right, tooLong_no ha]
  unfold turn turnE
  rw [if_pos ⟨h, hb⟩, if_pos ⟨h, hb⟩]
  exact ⟨rfl, rfl⟩
theorem turn2 {a b c : List Int} (ha : a.length ≤ 128) (hb : b.length ≤ 128) (hc : c.length ≤ 128) : turn [b, a] c = [c, b] ∧ turnE [b, a] c = 0 := by
  have h : right [b, a] = true := by simp [right, tooLong_no ha, tooLong_no hb]
  unfold turn turnE
  rw [if_pos ⟨h, hc⟩, if_pos ⟨h, hc⟩]
  exact ⟨rfl, rfl⟩
theorem at1 {a t : List Int} {n : Int} (h0 : 1 ≤ n) (h1 : n ≤ 32) : at_ [a] t n (bits a t n) = 0 := by
  unfold at_
  rw [if_neg (by simp; omega)]
  simp [idx]
theorem at2 {x y t : List Int} {n w : Int} (h0 : 1 ≤ n) (h1 : n ≤ 32) : at_ [x, y] t n w = if bits x t n == w then 0 else if bits y t n == w then 1 else -1 := by
  unfold at_
  rw [if_neg (by simp; omega)]
  simp only [idx]
  split
  · rfl
  · split <;> simp
end Mac
theorem mturn_lit (A : Option Addr) (n c : Nat) (rs : List Mac.Key) (B : Option Addr) (m d : Nat) (key : List Int) (w : World) (L : List (List Int)) (N : Nat) (hr : Mac.Ring w A n rs) (hnc : n ≤ c) (hbig : n ≤ 4294960000) (hB : Rd w 1 B m (bs key)) (hk8 : isB key) (hm : m ≤ 4294960000)
    (hL : Mac.turn (rs.map (·.l)) key = L ∧ Mac.turnE (rs.map (·.l)) key = 0) (hN : L.length = N) :
    Calls Tryd.prog 21 #[.slice A n c, .slice B m d] w fun e w' => ∃ A' c' rs', e = .returned (.tuple #[.slice A' N c', .int .i64 0]) ∧ Mac.Ring w' A' N rs' ∧ rs'.map (·.l) = L ∧ N ≤ c' ∧ Below w.heap.size w w' := by
  refine (mturn_spec A n c rs B m d key w hr hnc hbig hB hk8 hm).mono ?_
  rintro e w' ⟨A', c', rs', rfl, h1, h2, h3, h4⟩
  have hl : rs'.length = N := by rw [← hN, ← hL.1, ← h2, List.length_map]
  rw [hL.1] at h2
  rw [hl] at h1 h3
  exact ⟨A', c', rs', by rw [hl, hL.2], h1, h2, h3, h4⟩
theorem mcheck_lit (A : Option Addr) (n c : Nat) (rs : List Mac.Key) (B : Option Addr) (m d : Nat) (b : List Int) (nn want : Int) (w : World) (L : List (List Int)) (i j : Int) (t : Bool) (hT : Tabs w) (hr : Mac.Ring w A n rs) (hbig : n ≤ 9223372036854775807) (hB : Rd w 1 B m (bs b)) (hb8 : isB b) (hm : m ≤ 4294960000)
    (hL : rs.map (·.l) = L) (hi : Mac.at_ L b nn want = i) (hj : max i 0 = j) (ht : decide (0 ≤ i) = t) :
    Calls Tryd.prog 23 #[.slice A n c, .slice B m d, .int .i64 nn, .int .u32 want] w fun e w' => e = .returned (.tuple #[.int .i64 j, .bool t]) ∧ Below w.heap.size w w' := by
  have h := mcheck_spec A n c rs B m d b nn want w hT hr hbig hB hb8 hm
  rw [hL, hi, hj, ht] at h
  exact h
set_option maxRecDepth 4000 in
set_option maxHeartbeats 8000000 in
theorem macturns_walk (A1 : Option Addr) (n1 c1 : Nat) (a : List Int) (A2 : Option Addr) (n2 c2 : Nat) (b : List Int) (A3 : Option Addr) (n3 c3 : Nat) (cc : List Int) (A4 : Option Addr) (n4 c4 : Nat) (tx : List Int) (k : Int) (w : World) (hT : Tabs w)
    (hR1 : Rd w 1 A1 n1 (bs a)) (hB1 : isB a) (hR2 : Rd w 1 A2 n2 (bs b)) (hB2 : isB b) (hR3 : Rd w 1 A3 n3 (bs cc)) (hB3 : isB cc) (hR4 : Rd w 1 A4 n4 (bs tx)) (hB4 : isB tx) (hk0 : 0 ≤ k) (hk1 : k ≤ 255) :
    Calls Tryd.prog 8 #[.slice A1 n1 c1, .slice A2 n2 c2, .slice A3 n3 c3, .slice A4 n4 c4, .int .u8 k] w fun e w' => e = .returned (.bool true) ∧ Below w.heap.size w w' := by
  have HA := mac_awake w hT
  have HT := Lib.hid hT
  have HR1 := Lib.hid hR1
  have HR2 := Lib.hid hR2
  have HR3 := Lib.hid hR3
  have HR4 := Lib.hid hR4
  have HBB := Lib.hid (And.intro hB1 (And.intro hB2 (And.intro hB3 hB4)))
  have HLL := Lib.hid (And.intro hR1.blen (And.intro hR2.blen hR3.blen))
  obtain ⟨X, hX⟩ : ∃ X, k % 32 + 1 = X := ⟨_, rfl⟩
  have hXb : 1 ≤ X ∧ X ≤ 32 := by omega
  clear hT hR1 hR2 hR3 hR4 hB1 hB2 hB3 hB4
  rcases (show 128 < n1 ∨ (n1 ≤ 128 ∧ 128 < n2) ∨ (n1 ≤ 128 ∧ n2 ≤ 128 ∧ 128 < n3) ∨ (n1 ≤ 128 ∧ n2 ≤ 128 ∧ n3 ≤ 128 ∧ 300 < n4) ∨ (n1 ≤ 128 ∧ n2 ≤ 128 ∧ n3 ≤ 128 ∧ n4 ≤ 300) by omega) with h | ⟨h1, h⟩ | ⟨h1, h2, h⟩ | ⟨h1, h2, h3, h⟩ | ⟨h1, h2, h3, h4⟩
  · have z1 : (128 : Int) < (n1 : Int) := by omega
    go_enter Tryd.func8, Tryd.ntmps8
    go_wp2_with fail
    refine HA.mono ?_
    rintro e w1 ⟨rfl, hb1⟩
    go_wp2_with fail
    go_ret
    exact ⟨rfl, hb1⟩
  · have z1 : ¬ (128 : Int) < (n1 : Int) := by omega
    have z2 : (128 : Int) < (n2 : Int) := by omega
    go_enter Tryd.func8, Tryd.ntmps8
    go_wp2_with fail
    refine HA.mono ?_
    rintro e w1 ⟨rfl, hb1⟩
    go_wp2_with fail
    go_ret
    exact ⟨rfl, hb1⟩
  · have z1 : ¬ (128 : Int) < (n1 : Int) := by omega
    have z2 : ¬ (128 : Int) < (n2 : Int) := by omega
    have z3 : (128 : Int) < (n3 : Int) := by omega
    go_enter Tryd.func8, Tryd.ntmps8
    go_wp2_with fail
    refine HA.mono ?_
    rintro e w1 ⟨rfl, hb1⟩
    go_wp2_with fail
    go_ret
    exact ⟨rfl, hb1⟩
  · have z1 : ¬ (128 : Int) < (n1 : Int) := by omega
    have z2 : ¬ (128 : Int) < (n2 : Int) := by omega
    have z3 : ¬ (128 : Int) < (n3 : Int) := by omega
    have z4 : (300 : Int) < (n4 : Int) := by omega
    go_enter Tryd.func8, Tryd.ntmps8
    go_wp2_with fail
    refine HA.mono ?_
    rintro e w1 ⟨rfl, hb1⟩
    go_wp2_with fail
    go_ret
    exact ⟨rfl, hb1⟩
  have z1 : ¬ (128 : Int) < (n1 : Int) := by omega
  have z2 : ¬ (128 : Int) < (n2 : Int) := by omega
  have z3 : ¬ (128 : Int) < (n3 : Int) := by omega
  have z4 : ¬ (300 : Int) < (n4 : Int) := by omega
  have la : a.length ≤ 128 := by rw [HLL.out.1]; exact h1
  have lb : b.length ≤ 128 := by rw [HLL.out.2.1]; exact h2
  have lc : cc.length ≤ 128 := by rw [HLL.out.2.2]; exact h3
  have T0 := Lib.hid (Mac.turn0 la)
  have T1 := Lib.hid (Mac.turn1 la lb)
  have T2 := Lib.hid (Mac.turn2 la lb lc)
  clear la lb lc
  obtain ⟨want, hwant⟩ : ∃ v, v = Mac.bits a tx X := ⟨_, rfl⟩
  obtain ⟨vb, hvb⟩ : ∃ v, v = Mac.bits b tx X := ⟨_, rfl⟩
  obtain ⟨vc, hvc⟩ : ∃ v, v = Mac.bits cc tx X := ⟨_, rfl⟩
  have W1 : Hid (Mac.at_ [a] tx X want = 0) := Lib.hid (by rw [hwant]; exact Mac.at1 hXb.1 hXb.2)
  have W2 : Hid (Mac.at_ [b, a] tx X want = if vb == want then 0 else 1) := Lib.hid (by rw [Mac.at2 hXb.1 hXb.2, ← hvb, ← hwant]; simp)
  have W3 : Hid (Mac.at_ [cc, b] tx X want = if vc == want then 0 else if vb == want then 1 else -1) := Lib.hid (by rw [Mac.at2 hXb.1 hXb.2, ← hvc, ← hvb])
  have HWA := Lib.hid hwant
  have HVB := Lib.hid hvb
  have HVC := Lib.hid hvc
  clear hwant hvb hvc
  obtain ⟨sb, hsb⟩ : ∃ s, (vb == want) = s := ⟨_, rfl⟩
  obtain ⟨sc, hsc⟩ : ∃ s, (vc == want) = s := ⟨_, rfl⟩
  rw [hsb] at W2 W3
  rw [hsc] at W3
  have HS := Lib.hid (And.intro hsb hsc)
  clear hsb hsc
  go_enter Tryd.func8, Tryd.ntmps8
  go_wp2_with fail
  refine HA.mono ?_
  rintro e w1 ⟨rfl, hb1⟩
  clear HA
  go_wp2_with fail
  refine (mturn_lit none 0 0 [] A1 n1 c1 a w1 [a] 1 (Mac.Ring.nil _ _) (Nat.le_refl _) (by omega) (HR1.out.below hb1) HBB.out.1 (by omega) T0.out rfl).mono ?_
  rintro e w2 ⟨B2, d2, rs2, rfl, hr2, hl2, hd2, hb2⟩
  have hbw2 := bel_then hb1 hb2
  have HG2 := Lib.hid hr2
  have HL2 := Lib.hid hl2
  clear hr2 hl2 hb1 hb2
  go_wp2_with fail
  have hm3 := mbits_spec A1 n1 c1 A4 n4 c4 a tx X w2 (HT.out.below hbw2) (HR1.out.below hbw2) (HR4.out.below hbw2) HBB.out.1 HBB.out.2.2.2 (by omega) (by omega)
  rw [← HWA.out] at hm3
  refine hm3.mono ?_
  rintro e w3 ⟨rfl, hb3⟩
  have hbw3 := bel_then hbw2 hb3
  have HG3 := Lib.hid (HG2.out.below hb3)
  clear hm3 hbw2 hb3 HG2
  go_wp2_with fail
  refine (mcheck_lit B2 1 d2 rs2 A4 n4 c4 tx X want w3 [a] 0 0 true (HT.out.below hbw3) HG3.out (by omega) (HR4.out.below hbw3) HBB.out.2.2.2 (by omega) HL2.out W1.out rfl rfl).mono ?_
  rintro e w4 ⟨rfl, hb4⟩
  have hbw4 := bel_then hbw3 hb4
  have HG4 := Lib.hid (HG3.out.below hb4)
  clear hbw3 hb4 HG3
  go_wp2_with fail
  refine (mturn_lit B2 1 d2 rs2 A2 n2 c2 b w4 [b, a] 2 HG4.out hd2 (by omega) (HR2.out.below hbw4) HBB.out.2.1 (by omega) (by rw [HL2.out]; exact T1.out) rfl).mono ?_
  rintro e w5 ⟨B5, d5, rs5, rfl, hr5, hl5, hd5, hb5⟩
  have hbw5 := bel_then hbw4 hb5
  have HG5 := Lib.hid hr5
  have HL5 := Lib.hid hl5
  clear hr5 hl5 hbw4 hb5 HG4
  go_wp2_with fail
  cases sb <;> cases sc
  · have hsb := HS.out.1
    have hsc := HS.out.2
    refine (mcheck_lit B5 2 d5 rs5 A4 n4 c4 tx X want w5 [b, a] 1 1 true (HT.out.below hbw5) HG5.out (by omega) (HR4.out.below hbw5) HBB.out.2.2.2 (by omega) HL5.out (by rw [W2.out]; simp) rfl rfl).mono ?_
    rintro e w6 ⟨rfl, hb6⟩
    have hbw6 := bel_then hbw5 hb6
    have HG6 := Lib.hid (HG5.out.below hb6)
    clear hbw5 hb6 HG5
    go_wp2_with fail
    have hm7 := mbits_spec A2 n2 c2 A4 n4 c4 b tx X w6 (HT.out.below hbw6) (HR2.out.below hbw6) (HR4.out.below hbw6) HBB.out.2.1 HBB.out.2.2.2 (by omega) (by omega)
    rw [← HVB.out] at hm7
    refine hm7.mono ?_
    rintro e w7 ⟨rfl, hb7⟩
    have hbw7 := bel_then hbw6 hb7
    have HG7 := Lib.hid (HG6.out.below hb7)
    clear hm7 hbw6 hb7 HG6
    go_wp2_with fail
    refine (mturn_lit B5 2 d5 rs5 A3 n3 c3 cc w7 [cc, b] 2 HG7.out hd5 (by omega) (HR3.out.below hbw7) HBB.out.2.2.1 (by omega) (by rw [HL5.out]; exact T2.out) rfl).mono ?_
    rintro e w8 ⟨B8, d8, rs8, rfl, hr8, hl8, hd8, hb8⟩
    have hbw8 := bel_then hbw7 hb8
    have HG8 := Lib.hid hr8
    have HL8 := Lib.hid hl8
    clear hr8 hl8 hbw7 hb8 HG7
    go_wp2_with fail
    refine (mcheck_lit B8 2 d8 rs8 A4 n4 c4 tx X want w8 [cc, b] (-1) 0 false (HT.out.below hbw8) HG8.out (by omega) (HR4.out.below hbw8) HBB.out.2.2.2 (by omega) HL8.out (by rw [W3.out]; simp) rfl rfl).mono ?_
    rintro e w9 ⟨rfl, hb9⟩
    have hbw9 := bel_then hbw8 hb9
    clear hbw8 hb9 HG8
    go_wp2_with fail
    have hm10 := mbits_spec A3 n3 c3 A4 n4 c4 cc tx X w9 (HT.out.below hbw9) (HR3.out.below hbw9) (HR4.out.below hbw9) HBB.out.2.2.1 HBB.out.2.2.2 (by omega) (by omega)
    rw [← HVC.out] at hm10
    refine hm10.mono ?_
    rintro e w10 ⟨rfl, hb10⟩
    have hbw10 := bel_then hbw9 hb10
    clear hm10 hbw9 hb10
    go_wp2_with fail
    go_ret
    exact ⟨rfl, hbw10⟩
  · have hsb := HS.out.1
    have hsc := HS.out.2
    refine (mcheck_lit B5 2 d5 rs5 A4 n4 c4 tx X want w5 [b, a] 1 1 true (HT.out.below hbw5) HG5.out (by omega) (HR4.out.below hbw5) HBB.out.2.2.2 (by omega) HL5.out (by rw [W2.out]; simp) rfl rfl).mono ?_
    rintro e w6 ⟨rfl, hb6⟩
    have hbw6 := bel_then hbw5 hb6
    have HG6 := Lib.hid (HG5.out.below hb6)
    clear hbw5 hb6 HG5
    go_wp2_with fail
    have hm7 := mbits_spec A2 n2 c2 A4 n4 c4 b tx X w6 (HT.out.below hbw6) (HR2.out.below hbw6) (HR4.out.below hbw6) HBB.out.2.1 HBB.out.2.2.2 (by omega) (by omega)
    rw [← HVB.out] at hm7
    refine hm7.mono ?_
    rintro e w7 ⟨rfl, hb7⟩
    have hbw7 := bel_then hbw6 hb7
    have HG7 := Lib.hid (HG6.out.below hb7)
    clear hm7 hbw6 hb7 HG6
    go_wp2_with fail
    refine (mturn_lit B5 2 d5 rs5 A3 n3 c3 cc w7 [cc, b] 2 HG7.out hd5 (by omega) (HR3.out.below hbw7) HBB.out.2.2.1 (by omega) (by rw [HL5.out]; exact T2.out) rfl).mono ?_
    rintro e w8 ⟨B8, d8, rs8, rfl, hr8, hl8, hd8, hb8⟩
    have hbw8 := bel_then hbw7 hb8
    have HG8 := Lib.hid hr8
    have HL8 := Lib.hid hl8
    clear hr8 hl8 hbw7 hb8 HG7
    go_wp2_with fail
    refine (mcheck_lit B8 2 d8 rs8 A4 n4 c4 tx X want w8 [cc, b] 0 0 true (HT.out.below hbw8) HG8.out (by omega) (HR4.out.below hbw8) HBB.out.2.2.2 (by omega) HL8.out (by rw [W3.out]; simp) rfl rfl).mono ?_
    rintro e w9 ⟨rfl, hb9⟩
    have hbw9 := bel_then hbw8 hb9
    clear hbw8 hb9 HG8
    go_wp2_with fail
    have hm10 := mbits_spec A3 n3 c3 A4 n4 c4 cc tx X w9 (HT.out.below hbw9) (HR3.out.below hbw9) (HR4.out.below hbw9) HBB.out.2.2.1 HBB.out.2.2.2 (by omega) (by omega)
    rw [← HVC.out] at hm10
    refine hm10.mono ?_
    rintro e w10 ⟨rfl, hb10⟩
    have hbw10 := bel_then hbw9 hb10
    clear hm10 hbw9 hb10
    go_wp2_with fail
    go_ret
    exact ⟨rfl, hbw10⟩
  · have hsb := HS.out.1
    have hsc := HS.out.2
    refine (mcheck_lit B5 2 d5 rs5 A4 n4 c4 tx X want w5 [b, a] 0 0 true (HT.out.below hbw5) HG5.out (by omega) (HR4.out.below hbw5) HBB.out.2.2.2 (by omega) HL5.out (by rw [W2.out]; simp) rfl rfl).mono ?_
    rintro e w6 ⟨rfl, hb6⟩
    have hbw6 := bel_then hbw5 hb6
    have HG6 := Lib.hid (HG5.out.below hb6)
    clear hbw5 hb6 HG5
    go_wp2_with fail
    have hm7 := mbits_spec A2 n2 c2 A4 n4 c4 b tx X w6 (HT.out.below hbw6) (HR2.out.below hbw6) (HR4.out.below hbw6) HBB.out.2.1 HBB.out.2.2.2 (by omega) (by omega)
    rw [← HVB.out] at hm7
    refine hm7.mono ?_
    rintro e w7 ⟨rfl, hb7⟩
    have hbw7 := bel_then hbw6 hb7
    have HG7 := Lib.hid (HG6.out.below hb7)
    clear hm7 hbw6 hb7 HG6
    go_wp2_with fail
    refine (mturn_lit B5 2 d5 rs5 A3 n3 c3 cc w7 [cc, b] 2 HG7.out hd5 (by omega) (HR3.out.below hbw7) HBB.out.2.2.1 (by omega) (by rw [HL5.out]; exact T2.out) rfl).mono ?_
    rintro e w8 ⟨B8, d8, rs8, rfl, hr8, hl8, hd8, hb8⟩
    have hbw8 := bel_then hbw7 hb8
    have HG8 := Lib.hid hr8
    have HL8 := Lib.hid hl8
    clear hr8 hl8 hbw7 hb8 HG7
    go_wp2_with fail
    refine (mcheck_lit B8 2 d8 rs8 A4 n4 c4 tx X want w8 [cc, b] 1 1 true (HT.out.below hbw8) HG8.out (by omega) (HR4.out.below hbw8) HBB.out.2.2.2 (by omega) HL8.out (by rw [W3.out]; simp) rfl rfl).mono ?_
    rintro e w9 ⟨rfl, hb9⟩
    have hbw9 := bel_then hbw8 hb9
    clear hbw8 hb9 HG8
    go_wp2_with fail
    have hm10 := mbits_spec A3 n3 c3 A4 n4 c4 cc tx X w9 (HT.out.below hbw9) (HR3.out.below hbw9) (HR4.out.below hbw9) HBB.out.2.2.1 HBB.out.2.2.2 (by omega) (by omega)
    rw [← HVC.out] at hm10
    refine hm10.mono ?_
    rintro e w10 ⟨rfl, hb10⟩
    have hbw10 := bel_then hbw9 hb10
    clear hm10 hbw9 hb10
    go_wp2_with fail
    go_ret
    exact ⟨rfl, hbw10⟩
  · have hsb := HS.out.1
    have hsc := HS.out.2
    refine (mcheck_lit B5 2 d5 rs5 A4 n4 c4 tx X want w5 [b, a] 0 0 true (HT.out.below hbw5) HG5.out (by omega) (HR4.out.below hbw5) HBB.out.2.2.2 (by omega) HL5.out (by rw [W2.out]; simp) rfl rfl).mono ?_
    rintro e w6 ⟨rfl, hb6⟩
    have hbw6 := bel_then hbw5 hb6
    have HG6 := Lib.hid (HG5.out.below hb6)
    clear hbw5 hb6 HG5
    go_wp2_with fail
    have hm7 := mbits_spec A2 n2 c2 A4 n4 c4 b tx X w6 (HT.out.below hbw6) (HR2.out.below hbw6) (HR4.out.below hbw6) HBB.out.2.1 HBB.out.2.2.2 (by omega) (by omega)
    rw [← HVB.out] at hm7
    refine hm7.mono ?_
    rintro e w7 ⟨rfl, hb7⟩
    have hbw7 := bel_then hbw6 hb7
    have HG7 := Lib.hid (HG6.out.below hb7)
    clear hm7 hbw6 hb7 HG6
    go_wp2_with fail
    refine (mturn_lit B5 2 d5 rs5 A3 n3 c3 cc w7 [cc, b] 2 HG7.out hd5 (by omega) (HR3.out.below hbw7) HBB.out.2.2.1 (by omega) (by rw [HL5.out]; exact T2.out) rfl).mono ?_
    rintro e w8 ⟨B8, d8, rs8, rfl, hr8, hl8, hd8, hb8⟩
    have hbw8 := bel_then hbw7 hb8
    have HG8 := Lib.hid hr8
    have HL8 := Lib.hid hl8
    clear hr8 hl8 hbw7 hb8 HG7
    go_wp2_with fail
    refine (mcheck_lit B8 2 d8 rs8 A4 n4 c4 tx X want w8 [cc, b] 0 0 true (HT.out.below hbw8) HG8.out (by omega) (HR4.out.below hbw8) HBB.out.2.2.2 (by omega) HL8.out (by rw [W3.out]; simp) rfl rfl).mono ?_
    rintro e w9 ⟨rfl, hb9⟩
    have hbw9 := bel_then hbw8 hb9
    clear hbw8 hb9 HG8
    go_wp2_with fail
    have hm10 := mbits_spec A3 n3 c3 A4 n4 c4 cc tx X w9 (HT.out.below hbw9) (HR3.out.below hbw9) (HR4.out.below hbw9) HBB.out.2.2.1 HBB.out.2.2.2 (by omega) (by omega)
    rw [← HVC.out] at hm10
    refine hm10.mono ?_
    rintro e w10 ⟨rfl, hb10⟩
    have hbw10 := bel_then hbw9 hb10
    clear hm10 hbw9 hb10
    go_wp2_with fail
    go_ret
    exact ⟨rfl, hbw10⟩
end Go.Proofs.YtjikegapljdddaaDoor
