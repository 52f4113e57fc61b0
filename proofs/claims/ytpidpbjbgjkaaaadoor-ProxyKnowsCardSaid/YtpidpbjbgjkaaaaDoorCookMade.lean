/- The walks of tuple.port, tuple.Right, cookie.may, made, Make. -/
import Derived.Test.YtpidpbjbgjkaaaaDoorCookText
namespace Go.Proofs.YtpidpbjbgjkaaaaDoor
open Go.RowKit
set_option maxRecDepth 8000
set_option linter.unusedVariables false
attribute [local go_sem ↓] Go.wp_at_zero Go.wp_at_succ
theorem tport_spec (p : Int) (w : World) : Calls Tryd.prog 61 #[.int .i64 p] w fun e w' => e = .returned (.bool (decide (0 ≤ p ∧ p ≤ 65535))) ∧ Below w.heap.size w w' := by
  go_enter Tryd.func61, Tryd.ntmps61
  by_cases h0 : 0 ≤ p
  · go_wp2
    go_ret
    exact ⟨ret_bool (by simp [h0]), Below.refl _ _⟩
  · go_wp2
    go_ret
    exact ⟨ret_bool (by simp; omega), Below.refl _ _⟩
set_option maxHeartbeats 1000000 in
theorem tright_spec (t : Cook.Tup) (w : World) : Calls Tryd.prog 51 #[.agg #[.int .i64 t.proto, .int .u32 t.src, .int .i64 t.sport, .int .u32 t.dst, .int .i64 t.dport]] w fun e w' => e = .returned (.bool t.right) ∧ Below w.heap.size w w' := by
  obtain ⟨W, hW⟩ : ∃ W, W = w.alloc (.cells #[.int .i64 t.proto, .int .u32 t.src, .int .i64 t.sport, .int .u32 t.dst, .int .i64 t.dport] 25) := ⟨_, rfl⟩
  have hbW : Below w.heap.size w W := by rw [hW]; exact (Below.refl _ _).alloc (Nat.le_refl _) _
  have K5 := tup_c5 W t w.heap.size (by rw [hW]; exact BlkV.new _ _ _)
  have hR : Hid (t.right = (decide (0 ≤ t.proto ∧ t.proto ≤ 255) && decide (0 ≤ t.sport ∧ t.sport ≤ 65535) && decide (0 ≤ t.dport ∧ t.dport ≤ 65535))) := Lib.hid (by
    unfold Cook.Tup.right
    rw [← Bool.decide_and, ← Bool.decide_and, decide_eq_decide]
    omega)
  generalize t.right = rt at hR ⊢
  obtain ⟨a0, a1, a2, a3, a4⟩ := K5 W (Below.refl _ _)
  have KK := Lib.hid K5
  clear K5
  by_cases h0 : 0 ≤ t.proto
  · by_cases h1 : t.proto ≤ 255
    · obtain ⟨q1, hq1⟩ : ∃ q, q = decide (0 ≤ t.sport ∧ t.sport ≤ 65535) := ⟨_, rfl⟩
      obtain ⟨q2, hq2⟩ : ∃ q, q = decide (0 ≤ t.dport ∧ t.dport ≤ 65535) := ⟨_, rfl⟩
      have hc1 := tport_spec t.sport
      have hc2 := tport_spec t.dport
      rw [← hq1, ← hq2] at hR
      rw [← hq1] at hc1
      rw [← hq2] at hc2
      have HC1 := Lib.hid hc1
      have HC2 := Lib.hid hc2
      have hr : Hid (rt = (q1 && q2)) := Lib.hid (by rw [hR.out]; simp [h0, h1])
      clear hq1 hq2 hR hc1 hc2
      cases q1
      · go_enter Tryd.func51, Tryd.ntmps51
        go_upto_region 1 with (fail)
        rw [← hW]
        clear hW
        go_wp2_with fail
        refine (HC1.out _).mono ?_
        rintro e w1 ⟨rfl, hb1⟩
        go_wp2_with fail
        go_ret
        exact ⟨ret_bool (by rw [hr.out]; rfl), bel_then hbW hb1⟩
      · go_enter Tryd.func51, Tryd.ntmps51
        go_upto_region 1 with (fail)
        rw [← hW]
        clear hW
        go_wp2_with fail
        refine (HC1.out _).mono ?_
        rintro e w1 ⟨rfl, hb1⟩
        obtain ⟨b0, b1, b2, b3, b4⟩ := KK.out w1 hb1
        go_wp2_with fail
        refine (HC2.out _).mono ?_
        rintro e w2 ⟨rfl, hb2⟩
        go_wp2_with fail
        go_ret
        exact ⟨ret_bool (by rw [hr.out]; simp), bel_then (bel_then hbW hb1) hb2⟩
    · have hr : Hid (rt = false) := Lib.hid (by rw [hR.out]; simp [h0, h1])
      clear hR
      go_enter Tryd.func51, Tryd.ntmps51
      go_upto_region 1 with (fail)
      rw [← hW]
      clear hW
      go_wp2_with fail
      go_ret
      exact ⟨ret_bool (by rw [hr.out]), hbW⟩
  · have hr : Hid (rt = false) := Lib.hid (by rw [hR.out]; simp [h0])
    clear hR
    go_enter Tryd.func51, Tryd.ntmps51
    go_upto_region 1 with (fail)
    rw [← hW]
    clear hW
    go_wp2_with fail
    go_ret
    exact ⟨ret_bool (by rw [hr.out]), hbW⟩
set_option maxHeartbeats 1000000 in
theorem cmay_spec (t : Cook.Tup) (ep : Int) (w : World) : Calls Tryd.prog 37 #[.agg #[.int .i64 t.proto, .int .u32 t.src, .int .i64 t.sport, .int .u32 t.dst, .int .i64 t.dport], .int .i64 ep] w fun e w' => e = .returned (.bool (Cook.may t ep)) ∧ Below w.heap.size w w' := by
  obtain ⟨W, hW⟩ : ∃ W, W = w.alloc (.cells #[.int .i64 t.proto, .int .u32 t.src, .int .i64 t.sport, .int .u32 t.dst, .int .i64 t.dport] 25) := ⟨_, rfl⟩
  have hbW : Below w.heap.size w W := by rw [hW]; exact (Below.refl _ _).alloc (Nat.le_refl _) _
  obtain ⟨a0, a1, a2, a3, a4⟩ := tup_c5 W t w.heap.size (by rw [hW]; exact BlkV.new _ _ _) W (Below.refl _ _)
  have HC := Lib.hid (tright_spec t)
  have HM : Hid (Cook.may t ep = (t.right && decide (0 ≤ ep ∧ ep ≤ 2147483647))) := Lib.hid rfl
  generalize Cook.may t ep = m at HM ⊢
  generalize t.right = rt at HM HC
  cases rt
  · go_enter Tryd.func37, Tryd.ntmps37
    go_upto_region 1 with (fail)
    rw [← hW]
    clear hW
    go_wp2_with fail
    refine (HC.out _).mono ?_
    rintro e w1 ⟨rfl, hb1⟩
    go_wp2_with fail
    go_ret
    exact ⟨ret_bool (by rw [HM.out]; rfl), bel_then hbW hb1⟩
  · by_cases h0 : 0 ≤ ep
    · go_enter Tryd.func37, Tryd.ntmps37
      go_upto_region 1 with (fail)
      rw [← hW]
      clear hW
      go_wp2_with fail
      refine (HC.out _).mono ?_
      rintro e w1 ⟨rfl, hb1⟩
      go_wp2_with fail
      go_ret
      exact ⟨ret_bool (by rw [HM.out]; simp [h0]), bel_then hbW hb1⟩
    · go_enter Tryd.func37, Tryd.ntmps37
      go_upto_region 1 with (fail)
      rw [← hW]
      clear hW
      go_wp2_with fail
      refine (HC.out _).mono ?_
      rintro e w1 ⟨rfl, hb1⟩
      go_wp2_with fail
      go_ret
      exact ⟨ret_bool (by rw [HM.out]; simp; omega), bel_then hbW hb1⟩
theorem Cook.or8 {a p : Int} (a0 : 0 ≤ a) (a1 : a ≤ 31) (p0 : 0 ≤ p) (p1 : p ≤ 7) : Go.bits .or .u32 (a * 8) p = a * 8 + p :=
  Sha.u32_or 3 ⟨a.toNat, by omega, by omega⟩ (by omega) (by omega) (by omega)
theorem Cook.or24 {a p : Int} (a0 : 0 ≤ a) (a1 : a ≤ 255) (p0 : 0 ≤ p) (p1 : p ≤ 16777215) : Go.bits .or .u32 (a * 16777216) p = a * 16777216 + p :=
  Sha.u32_or 24 ⟨a.toNat, by omega, by omega⟩ (by omega) (by omega) (by omega)
set_option maxHeartbeats 2000000 in
theorem cmade_spec (A : Option Addr) (n c : Nat) (key : List Int) (t : Cook.Tup) (hw : t.wf) (sq ep pl : Int) (hs0 : 0 ≤ sq) (hs1 : sq ≤ 4294967295) (he0 : 0 ≤ ep) (hp0 : 0 ≤ pl) (hp1 : pl ≤ 7) (w : World) (hT : Tabs w) (hA : Rd w 1 A n (bs key)) (hk : isB key) (hn : n ≤ 4294967295) :
    Calls Tryd.prog 38 #[.slice A n c, .agg #[.int .i64 t.proto, .int .u32 t.src, .int .i64 t.sport, .int .u32 t.dst, .int .i64 t.dport], .int .u32 sq, .int .i64 ep, .int .i64 pl] w fun e w' => e = .returned (.int .u32 (Cook.one key t sq ep pl)) ∧ Below w.heap.size w w' := by
  obtain ⟨W, hW⟩ : ∃ W, W = w.alloc (.cells #[.int .i64 t.proto, .int .u32 t.src, .int .i64 t.sport, .int .u32 t.dst, .int .i64 t.dport] 25) := ⟨_, rfl⟩
  have hbW : Below w.heap.size w W := by rw [hW]; exact (Below.refl _ _).alloc (Nat.le_refl _) _
  obtain ⟨a0, a1, a2, a3, a4⟩ := tup_c5 W t w.heap.size (by rw [hW]; exact BlkV.new _ _ _) W (Below.refl _ _)
  have HC1 := Lib.hid (ctext_spec t hw sq ep pl hs0 hs1 W)
  have HC2 : Hid (∀ (B : Option Addr) (d : Nat) (w1 : World), Below W.heap.size W w1 → Rd w1 1 B 22 (bs (Cook.text t sq ep pl)) → Calls Tryd.prog 52 #[.slice A n c, .slice B 22 d, .int .i64 24] w1 fun e w' => e = .returned (.int .u32 (Mac.bits key (Cook.text t sq ep pl) 24)) ∧ Below w1.heap.size w1 w') := Lib.hid fun B d w1 hb hr =>
    mbits_spec A n c B 22 d key (Cook.text t sq ep pl) 24 w1 ((hT.below hbW).below hb) ((hA.below hbW).below hb) hr hk (Cook.text_isB t sq ep pl) hn (by omega)
  obtain ⟨x0, x1⟩ := Cook.bits24 key (Cook.text t sq ep pl)
  have HO : Hid (Cook.one key t sq ep pl = (ep % 32 * 8 + pl) * 16777216 + Mac.bits key (Cook.text t sq ep pl) 24) := Lib.hid rfl
  generalize Cook.one key t sq ep pl = one at HO ⊢
  generalize Mac.bits key (Cook.text t sq ep pl) 24 = x at HO HC2 x0 x1
  obtain ⟨a, ha⟩ : ∃ a, a = ep % 32 := ⟨_, rfl⟩
  have ha0 : 0 ≤ a := by omega
  have ha1 : a ≤ 31 := by omega
  have hm : Int.tmod ep 32 = a := by rw [Int.tmod_eq_emod_of_nonneg he0]; exact ha.symm
  have h8 := Cook.or8 ha0 ha1 hp0 hp1
  have h24 := Cook.or24 (a := a * 8 + pl) (by omega) (by omega) x0 x1
  rw [← ha] at HO
  clear ha hT hA hk
  go_enter Tryd.func38, Tryd.ntmps38
  go_upto_region 1 with (fail)
  rw [← hW]
  clear hW
  go_wp2_with fail
  refine HC1.out.mono ?_
  rintro e w1 ⟨B, d, rfl, hr, hb1⟩
  have HR := Lib.hid hr
  clear hr
  go_wp2_with fail
  refine (HC2.out B d w1 hb1 HR.out).mono ?_
  rintro e w2 ⟨rfl, hb2⟩
  go_wp2_with fail
  go_ret
  exact ⟨ret_int (by rw [HO.out]), bel_then (bel_then hbW hb1) hb2⟩
set_option maxHeartbeats 2000000 in
theorem cmake_spec (A : Option Addr) (n c : Nat) (key : List Int) (t : Cook.Tup) (hw : t.wf) (sq ep mss : Int) (hs0 : 0 ≤ sq) (hs1 : sq ≤ 4294967295) (w : World) (hT : Tabs w) (hA : Rd w 1 A n (bs key)) (hk : isB key) (hn : n ≤ 4294967295) :
    Calls Tryd.prog 20 #[.slice A n c, .agg #[.int .i64 t.proto, .int .u32 t.src, .int .i64 t.sport, .int .u32 t.dst, .int .i64 t.dport], .int .u32 sq, .int .i64 ep, .int .i64 mss] w fun e w' => e = .returned (.tuple #[.int .u32 (if Cook.may t ep = true then Cook.one key t sq ep (Cook.place mss) else 0), .int .i64 (if Cook.may t ep = true then 0 else 1)]) ∧ Below w.heap.size w w' := by
  obtain ⟨W, hW⟩ : ∃ W, W = w.alloc (.cells #[.int .i64 t.proto, .int .u32 t.src, .int .i64 t.sport, .int .u32 t.dst, .int .i64 t.dport] 25) := ⟨_, rfl⟩
  have hbW : Below w.heap.size w W := by rw [hW]; exact (Below.refl _ _).alloc (Nat.le_refl _) _
  have K5 := Lib.hid (tup_c5 W t w.heap.size (by rw [hW]; exact BlkV.new _ _ _))
  obtain ⟨a0, a1, a2, a3, a4⟩ := K5.out W (Below.refl _ _)
  have HC := Lib.hid (cmay_spec t ep W)
  have HC2 : Hid (Cook.may t ep = true → ∀ w1 : World, Below W.heap.size W w1 → Calls Tryd.prog 38 #[.slice A n c, .agg #[.int .i64 t.proto, .int .u32 t.src, .int .i64 t.sport, .int .u32 t.dst, .int .i64 t.dport], .int .u32 sq, .int .i64 ep, .int .i64 (Cook.place mss)] w1 fun e w' => e = .returned (.int .u32 (Cook.one key t sq ep (Cook.place mss))) ∧ Below w1.heap.size w1 w') := Lib.hid fun hm w1 hb =>
    cmade_spec A n c key t hw sq ep (Cook.place mss) hs0 hs1 (by simp [Cook.may] at hm; omega) (by omega) (by have := Cook.place_le mss; omega) w1 ((hT.below hbW).below hb) ((hA.below hbW).below hb) hk hn
  have HC3 := Lib.hid (csize_spec mss)
  generalize Cook.one key t sq ep (Cook.place mss) = one at HC2 ⊢
  generalize Cook.place mss = pl at HC2 HC3
  generalize Cook.sizeAt pl = sz at HC3
  generalize Cook.may t ep = m at HC HC2 ⊢
  clear hT hA hk
  go_enter Tryd.func20, Tryd.ntmps20
  go_upto_region 1 with (fail)
  rw [← hW]
  clear hW
  go_wp2_with fail
  refine HC.out.mono ?_
  rintro e w1 ⟨rfl, hb1⟩
  cases m
  · go_wp2_with fail
    go_ret2
    exact ⟨by simp, bel_then hbW hb1⟩
  · go_wp2_with fail
    refine (HC3.out _).mono ?_
    rintro e w2 ⟨rfl, hb2⟩
    have hb2' := bel_then hb1 hb2
    obtain ⟨b0, b1, b2, b3, b4⟩ := K5.out w2 hb2'
    go_wp2_with fail
    refine (HC2.out (by simp) w2 hb2').mono ?_
    rintro e w3 ⟨rfl, hb3⟩
    go_wp2_with fail
    go_ret2
    exact ⟨by simp, bel_then (bel_then hbW hb2') hb3⟩
end Go.Proofs.YtpidpbjbgjkaaaaDoor
