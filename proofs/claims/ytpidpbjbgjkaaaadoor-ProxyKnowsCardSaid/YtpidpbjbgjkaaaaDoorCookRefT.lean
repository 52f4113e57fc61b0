/- The reference's walks: Text, One, Make. -/
import Derived.Test.YtpidpbjbgjkaaaaDoorCookRef
import Derived.Test.YtpidpbjbgjkaaaaDoorMacRef2
namespace Go.Proofs.YtpidpbjbgjkaaaaDoor
open Go.RowKit
set_option maxRecDepth 8000
set_option linter.unusedVariables false
attribute [local go_sem ↓] Go.wp_at_zero Go.wp_at_succ
set_option maxHeartbeats 4000000 in
theorem rtext_spec (t : Cook.Tup) (hw : t.wf) (sq ep pl : Int) (hs0 : 0 ≤ sq) (hs1 : sq ≤ 4294967295) (w : World) :
    Calls Tryd.prog 60 #[.agg #[.int .i64 t.proto, .int .u32 t.src, .int .i64 t.sport, .int .u32 t.dst, .int .i64 t.dport], .int .u32 sq, .int .i64 ep, .int .i64 pl] w fun e w' => ∃ A c, e = .returned (.slice A 22 c) ∧ Rd w' 1 A 22 (bs (Cook.text t sq ep pl)) ∧ Below w.heap.size w w' := by
  obtain ⟨W, hW⟩ : ∃ W, W = w.alloc (.cells #[.int .i64 t.proto, .int .u32 t.src, .int .i64 t.sport, .int .u32 t.dst, .int .i64 t.dport] 25) := ⟨_, rfl⟩
  have hbW : Below w.heap.size w W := by rw [hW]; exact (Below.refl _ _).alloc (Nat.le_refl _) _
  have K5 : Hid (∀ w' : World, Below W.heap.size W w' → w'.cell? ⟨w.heap.size, 0, none⟩ = some (.int .i64 t.proto) ∧ w'.cell? ⟨w.heap.size, 1, none⟩ = some (.int .u32 t.src) ∧ w'.cell? ⟨w.heap.size, 2, none⟩ = some (.int .i64 t.sport) ∧ w'.cell? ⟨w.heap.size, 3, none⟩ = some (.int .u32 t.dst) ∧ w'.cell? ⟨w.heap.size, 4, none⟩ = some (.int .i64 t.dport)) := Lib.hid fun w' hb => tup_c5 W t w.heap.size (by rw [hW]; exact BlkV.new _ _ _) w' hb
  obtain ⟨⟨hs2, hs3⟩, hd2, hd3⟩ := hw
  have HT : Hid ([] ++ Cook.num (t.proto % 4294967296) 1 ++ Cook.num t.src 4 ++ Cook.num (t.sport % 4294967296) 2 ++ Cook.num t.dst 4 ++ Cook.num (t.dport % 4294967296) 2 ++ Cook.num sq 4 ++ Cook.num (ep % 4294967296) 4 ++ Cook.num (pl % 4294967296) 1 = Cook.text t sq ep pl) := Lib.hid (by
    rw [List.nil_append, Cook.num1, Cook.num2, Cook.num2, Cook.num1, Cook.num4, Cook.num4, Cook.num4, Cook.num4]; rfl)
  have HS : Hid (∀ (w1 : World), Below W.heap.size W w1 → ∀ (m : Int) (k : Nat), k ≤ 4 → 0 ≤ m → m ≤ 4294967295 → Calls Tryd.prog 71 #[.int .u32 m, .int .i64 k] w1 fun e w' => ∃ A c, e = .returned (.slice A k c) ∧ Rd w' 1 A k (bs (Cook.num m k)) ∧ Below w1.heap.size w1 w') := Lib.hid fun w1 hb m k hk h0 h1 =>
    (rnumber_spec m k h0 h1 hk w1).mono fun e w' ⟨A, c, he, ho, hb'⟩ => ⟨A, c, he, Rd.of_own ho, hb'⟩
  obtain ⟨p0, hp0, hp1, hp2, hp3⟩ : ∃ p, IntKind.u32.wrap t.proto = p ∧ 0 ≤ p ∧ p ≤ 4294967295 ∧ Hid (p = t.proto % 4294967296) := ⟨_, rfl, by rw [IntKind.wrap_u32]; omega, by rw [IntKind.wrap_u32]; omega, Lib.hid (IntKind.wrap_u32 _)⟩
  obtain ⟨q0, hq0, hq1, hq2, hq3⟩ : ∃ p, IntKind.u32.wrap t.sport = p ∧ 0 ≤ p ∧ p ≤ 4294967295 ∧ Hid (p = t.sport % 4294967296) := ⟨_, rfl, by rw [IntKind.wrap_u32]; omega, by rw [IntKind.wrap_u32]; omega, Lib.hid (IntKind.wrap_u32 _)⟩
  obtain ⟨d0, hd0, hd1, hd2', hd3'⟩ : ∃ p, IntKind.u32.wrap t.dport = p ∧ 0 ≤ p ∧ p ≤ 4294967295 ∧ Hid (p = t.dport % 4294967296) := ⟨_, rfl, by rw [IntKind.wrap_u32]; omega, by rw [IntKind.wrap_u32]; omega, Lib.hid (IntKind.wrap_u32 _)⟩
  obtain ⟨e0, he0, he1, he2, he3⟩ : ∃ p, IntKind.u32.wrap ep = p ∧ 0 ≤ p ∧ p ≤ 4294967295 ∧ Hid (p = ep % 4294967296) := ⟨_, rfl, by rw [IntKind.wrap_u32]; omega, by rw [IntKind.wrap_u32]; omega, Lib.hid (IntKind.wrap_u32 _)⟩
  obtain ⟨l0, hl0, hl1, hl2, hl3⟩ : ∃ p, IntKind.u32.wrap pl = p ∧ 0 ≤ p ∧ p ≤ 4294967295 ∧ Hid (p = pl % 4294967296) := ⟨_, rfl, by rw [IntKind.wrap_u32]; omega, by rw [IntKind.wrap_u32]; omega, Lib.hid (IntKind.wrap_u32 _)⟩
  rw [← hp3.out, ← hq3.out, ← hd3'.out, ← he3.out, ← hl3.out] at HT
  clear hp3 hq3 hd3' he3 hl3
  obtain ⟨a0, a1, a2, a3, a4⟩ := K5.out W (Below.refl _ _)
  go_enter Tryd.func60, Tryd.ntmps60
  go_upto_region 2 with (fail)
  rw [← hW]
  clear hW
  go_wp2_with fail
  refine (HS.out _ (Below.refl _ _) p0 1 (by omega) hp1 hp2).mono ?_
  rintro e v1 ⟨B1, b1, rfl, hr1, hv1⟩
  have hy1 := hv1
  have O1 : Hid (v1.ownsRow W.heap.size 5 1 (.slice none 0 0) 0 (bs [])) := Lib.hid (World.ownsRow_nil v1 W.heap.size 5 1)
  have R1 := Lib.hid hr1
  clear hr1 hv1
  obtain ⟨c10, c11, c12, c13, c14⟩ := K5.out v1 hy1
  go_wp2_with (at_builtin; refine wpList_app _ rfl (.tmp 10) (.tmp 14) 27 rfl W hy1 5 (.int .u8 0) 1 1 Tryd.underlying27 pad_info8 rfl (by decide) (.slice none 0 0) 0 (bs ([])) rfl O1.out B1 1 b1 (bs (Cook.num p0 1)) rfl R1.out (one_bs _) (by unfold maxLen; omega) (by omega) ?_; intro A1 d1 x1 ho1 hx1 hg1 ha1; obtain ⟨e10, e11, e12, e13, e14⟩ := K5.out x1 hx1; have P1 : Hid (x1.ownsRow W.heap.size 5 1 (.slice A1 1 d1) 1 (bs ([] ++ Cook.num p0 1))) := Lib.hid (by rw [bs_append]; exact ho1); clear ho1 hg1 ha1)
  refine (HS.out _ hx1 t.src 4 (by omega) hs2 hs3).mono ?_
  rintro e v2 ⟨B2, b2, rfl, hr2, hv2⟩
  have hy2 := bel_then hx1 hv2
  have O2 := Lib.hid (own_below P1.out hv2)
  clear P1 hx1
  have R2 := Lib.hid hr2
  clear hr2 hv2
  obtain ⟨c20, c21, c22, c23, c24⟩ := K5.out v2 hy2
  go_wp2_with (at_builtin; refine wpList_app _ rfl (.tmp 16) (.tmp 19) 27 rfl W hy2 5 (.int .u8 0) 1 1 Tryd.underlying27 pad_info8 rfl (by decide) (.slice A1 1 d1) 1 (bs ([] ++ Cook.num p0 1)) rfl O2.out B2 4 b2 (bs (Cook.num t.src 4)) rfl R2.out (one_bs _) (by unfold maxLen; omega) (by omega) ?_; intro A2 d2 x2 ho2 hx2 hg2 ha2; obtain ⟨e20, e21, e22, e23, e24⟩ := K5.out x2 hx2; have P2 : Hid (x2.ownsRow W.heap.size 5 1 (.slice A2 5 d2) 5 (bs ([] ++ Cook.num p0 1 ++ Cook.num t.src 4))) := Lib.hid (by rw [bs_append]; exact ho2); clear ho2 hg2 ha2)
  refine (HS.out _ hx2 q0 2 (by omega) hq1 hq2).mono ?_
  rintro e v3 ⟨B3, b3, rfl, hr3, hv3⟩
  have hy3 := bel_then hx2 hv3
  have O3 := Lib.hid (own_below P2.out hv3)
  clear P2 hx2
  have R3 := Lib.hid hr3
  clear hr3 hv3
  obtain ⟨c30, c31, c32, c33, c34⟩ := K5.out v3 hy3
  go_wp2_with (at_builtin; refine wpList_app _ rfl (.tmp 21) (.tmp 25) 27 rfl W hy3 5 (.int .u8 0) 1 1 Tryd.underlying27 pad_info8 rfl (by decide) (.slice A2 5 d2) 5 (bs ([] ++ Cook.num p0 1 ++ Cook.num t.src 4)) rfl O3.out B3 2 b3 (bs (Cook.num q0 2)) rfl R3.out (one_bs _) (by unfold maxLen; omega) (by omega) ?_; intro A3 d3 x3 ho3 hx3 hg3 ha3; obtain ⟨e30, e31, e32, e33, e34⟩ := K5.out x3 hx3; have P3 : Hid (x3.ownsRow W.heap.size 5 1 (.slice A3 7 d3) 7 (bs ([] ++ Cook.num p0 1 ++ Cook.num t.src 4 ++ Cook.num q0 2))) := Lib.hid (by rw [bs_append]; exact ho3); clear ho3 hg3 ha3)
  refine (HS.out _ hx3 t.dst 4 (by omega) hd2 hd3).mono ?_
  rintro e v4 ⟨B4, b4, rfl, hr4, hv4⟩
  have hy4 := bel_then hx3 hv4
  have O4 := Lib.hid (own_below P3.out hv4)
  clear P3 hx3
  have R4 := Lib.hid hr4
  clear hr4 hv4
  obtain ⟨c40, c41, c42, c43, c44⟩ := K5.out v4 hy4
  go_wp2_with (at_builtin; refine wpList_app _ rfl (.tmp 27) (.tmp 30) 27 rfl W hy4 5 (.int .u8 0) 1 1 Tryd.underlying27 pad_info8 rfl (by decide) (.slice A3 7 d3) 7 (bs ([] ++ Cook.num p0 1 ++ Cook.num t.src 4 ++ Cook.num q0 2)) rfl O4.out B4 4 b4 (bs (Cook.num t.dst 4)) rfl R4.out (one_bs _) (by unfold maxLen; omega) (by omega) ?_; intro A4 d4 x4 ho4 hx4 hg4 ha4; obtain ⟨e40, e41, e42, e43, e44⟩ := K5.out x4 hx4; have P4 : Hid (x4.ownsRow W.heap.size 5 1 (.slice A4 11 d4) 11 (bs ([] ++ Cook.num p0 1 ++ Cook.num t.src 4 ++ Cook.num q0 2 ++ Cook.num t.dst 4))) := Lib.hid (by rw [bs_append]; exact ho4); clear ho4 hg4 ha4)
  refine (HS.out _ hx4 d0 2 (by omega) hd1 hd2').mono ?_
  rintro e v5 ⟨B5, b5, rfl, hr5, hv5⟩
  have hy5 := bel_then hx4 hv5
  have O5 := Lib.hid (own_below P4.out hv5)
  clear P4 hx4
  have R5 := Lib.hid hr5
  clear hr5 hv5
  obtain ⟨c50, c51, c52, c53, c54⟩ := K5.out v5 hy5
  go_wp2_with (at_builtin; refine wpList_app _ rfl (.tmp 32) (.tmp 36) 27 rfl W hy5 5 (.int .u8 0) 1 1 Tryd.underlying27 pad_info8 rfl (by decide) (.slice A4 11 d4) 11 (bs ([] ++ Cook.num p0 1 ++ Cook.num t.src 4 ++ Cook.num q0 2 ++ Cook.num t.dst 4)) rfl O5.out B5 2 b5 (bs (Cook.num d0 2)) rfl R5.out (one_bs _) (by unfold maxLen; omega) (by omega) ?_; intro A5 d5 x5 ho5 hx5 hg5 ha5; obtain ⟨e50, e51, e52, e53, e54⟩ := K5.out x5 hx5; have P5 : Hid (x5.ownsRow W.heap.size 5 1 (.slice A5 13 d5) 13 (bs ([] ++ Cook.num p0 1 ++ Cook.num t.src 4 ++ Cook.num q0 2 ++ Cook.num t.dst 4 ++ Cook.num d0 2))) := Lib.hid (by rw [bs_append]; exact ho5); clear ho5 hg5 ha5)
  refine (HS.out _ hx5 sq 4 (by omega) hs0 hs1).mono ?_
  rintro e v6 ⟨B6, b6, rfl, hr6, hv6⟩
  have hy6 := bel_then hx5 hv6
  have O6 := Lib.hid (own_below P5.out hv6)
  clear P5 hx5
  have R6 := Lib.hid hr6
  clear hr6 hv6
  obtain ⟨c60, c61, c62, c63, c64⟩ := K5.out v6 hy6
  go_wp2_with (at_builtin; refine wpList_app _ rfl (.tmp 38) (.tmp 40) 27 rfl W hy6 5 (.int .u8 0) 1 1 Tryd.underlying27 pad_info8 rfl (by decide) (.slice A5 13 d5) 13 (bs ([] ++ Cook.num p0 1 ++ Cook.num t.src 4 ++ Cook.num q0 2 ++ Cook.num t.dst 4 ++ Cook.num d0 2)) rfl O6.out B6 4 b6 (bs (Cook.num sq 4)) rfl R6.out (one_bs _) (by unfold maxLen; omega) (by omega) ?_; intro A6 d6 x6 ho6 hx6 hg6 ha6; obtain ⟨e60, e61, e62, e63, e64⟩ := K5.out x6 hx6; have P6 : Hid (x6.ownsRow W.heap.size 5 1 (.slice A6 17 d6) 17 (bs ([] ++ Cook.num p0 1 ++ Cook.num t.src 4 ++ Cook.num q0 2 ++ Cook.num t.dst 4 ++ Cook.num d0 2 ++ Cook.num sq 4))) := Lib.hid (by rw [bs_append]; exact ho6); clear ho6 hg6 ha6)
  refine (HS.out _ hx6 e0 4 (by omega) he1 he2).mono ?_
  rintro e v7 ⟨B7, b7, rfl, hr7, hv7⟩
  have hy7 := bel_then hx6 hv7
  have O7 := Lib.hid (own_below P6.out hv7)
  clear P6 hx6
  have R7 := Lib.hid hr7
  clear hr7 hv7
  obtain ⟨c70, c71, c72, c73, c74⟩ := K5.out v7 hy7
  go_wp2_with (at_builtin; refine wpList_app _ rfl (.tmp 42) (.tmp 45) 27 rfl W hy7 5 (.int .u8 0) 1 1 Tryd.underlying27 pad_info8 rfl (by decide) (.slice A6 17 d6) 17 (bs ([] ++ Cook.num p0 1 ++ Cook.num t.src 4 ++ Cook.num q0 2 ++ Cook.num t.dst 4 ++ Cook.num d0 2 ++ Cook.num sq 4)) rfl O7.out B7 4 b7 (bs (Cook.num e0 4)) rfl R7.out (one_bs _) (by unfold maxLen; omega) (by omega) ?_; intro A7 d7 x7 ho7 hx7 hg7 ha7; obtain ⟨e70, e71, e72, e73, e74⟩ := K5.out x7 hx7; have P7 : Hid (x7.ownsRow W.heap.size 5 1 (.slice A7 21 d7) 21 (bs ([] ++ Cook.num p0 1 ++ Cook.num t.src 4 ++ Cook.num q0 2 ++ Cook.num t.dst 4 ++ Cook.num d0 2 ++ Cook.num sq 4 ++ Cook.num e0 4))) := Lib.hid (by rw [bs_append]; exact ho7); clear ho7 hg7 ha7)
  refine (HS.out _ hx7 l0 1 (by omega) hl1 hl2).mono ?_
  rintro e v8 ⟨B8, b8, rfl, hr8, hv8⟩
  have hy8 := bel_then hx7 hv8
  have O8 := Lib.hid (own_below P7.out hv8)
  clear P7 hx7
  have R8 := Lib.hid hr8
  clear hr8 hv8
  go_wp2_with (at_builtin; refine wpList_app _ rfl (.tmp 47) (.tmp 50) 27 rfl W hy8 5 (.int .u8 0) 1 1 Tryd.underlying27 pad_info8 rfl (by decide) (.slice A7 21 d7) 21 (bs ([] ++ Cook.num p0 1 ++ Cook.num t.src 4 ++ Cook.num q0 2 ++ Cook.num t.dst 4 ++ Cook.num d0 2 ++ Cook.num sq 4 ++ Cook.num e0 4)) rfl O8.out B8 1 b8 (bs (Cook.num l0 1)) rfl R8.out (one_bs _) (by unfold maxLen; omega) (by omega) ?_; intro A8 d8 x8 ho8 hx8 hg8 ha8; obtain ⟨e80, e81, e82, e83, e84⟩ := K5.out x8 hx8; have P8 : Hid (x8.ownsRow W.heap.size 5 1 (.slice A8 22 d8) 22 (bs ([] ++ Cook.num p0 1 ++ Cook.num t.src 4 ++ Cook.num q0 2 ++ Cook.num t.dst 4 ++ Cook.num d0 2 ++ Cook.num sq 4 ++ Cook.num e0 4 ++ Cook.num l0 1))) := Lib.hid (by rw [bs_append]; exact ho8); clear ho8 hg8 ha8)
  go_ret
  exact ⟨A8, d8, rfl, by rw [← HT.out]; exact Rd.of_own P8.out, bel_then hbW hx8⟩
set_option maxHeartbeats 2000000 in
theorem rone_spec (A : Option Addr) (n c : Nat) (key : List Int) (t : Cook.Tup) (hw : t.wf) (sq ep pl : Int) (hs0 : 0 ≤ sq) (hs1 : sq ≤ 4294967295) (he0 : 0 ≤ ep) (hp0 : 0 ≤ pl) (hp1 : pl ≤ 7) (w : World) (hT : TabK w) (hA : Rd w 1 A n (bs key)) (hk : isB key) (hn : n ≤ 4294960000) :
    Calls Tryd.prog 48 #[.slice A n c, .agg #[.int .i64 t.proto, .int .u32 t.src, .int .i64 t.sport, .int .u32 t.dst, .int .i64 t.dport], .int .u32 sq, .int .i64 ep, .int .i64 pl] w fun e w' => e = .returned (.int .u32 (Cook.one key t sq ep pl)) ∧ Below w.heap.size w w' := by
  obtain ⟨W, hW⟩ : ∃ W, W = w.alloc (.cells #[.int .i64 t.proto, .int .u32 t.src, .int .i64 t.sport, .int .u32 t.dst, .int .i64 t.dport] 25) := ⟨_, rfl⟩
  have hbW : Below w.heap.size w W := by rw [hW]; exact (Below.refl _ _).alloc (Nat.le_refl _) _
  obtain ⟨a0, a1, a2, a3, a4⟩ := tup_c5 W t w.heap.size (by rw [hW]; exact BlkV.new _ _ _) W (Below.refl _ _)
  have HC1 := Lib.hid (rtext_spec t hw sq ep pl hs0 hs1 W)
  have HC2 : Hid (∀ (B : Option Addr) (d : Nat) (w1 : World), Below W.heap.size W w1 → Rd w1 1 B 22 (bs (Cook.text t sq ep pl)) → Calls Tryd.prog 59 #[.slice A n c, .slice B 22 d, .int .i64 24] w1 fun e w' => e = .returned (.int .u32 (Mac.bits key (Cook.text t sq ep pl) 24)) ∧ Below w1.heap.size w1 w') := Lib.hid fun B d w1 hb hr =>
    rmbits_spec A n c B 22 d key (Cook.text t sq ep pl) 24 w1 ((hT.below hbW).below hb) ((hA.below hbW).below hb) hr hk (Cook.text_isB t sq ep pl) (by omega) (by omega)
  obtain ⟨x0, x1⟩ := Cook.bits24 key (Cook.text t sq ep pl)
  have HO : Hid (Cook.one key t sq ep pl = (ep % 32 * 8 + pl) * 16777216 + Mac.bits key (Cook.text t sq ep pl) 24) := Lib.hid rfl
  generalize Cook.one key t sq ep pl = one at HO ⊢
  generalize Mac.bits key (Cook.text t sq ep pl) 24 = x at HO HC2 x0 x1
  obtain ⟨a, ha⟩ : ∃ a, a = ep % 32 := ⟨_, rfl⟩
  have ha0 : 0 ≤ a := by omega
  have ha1 : a ≤ 31 := by omega
  have hm : Int.tmod ep 32 = a := by rw [Int.tmod_eq_emod_of_nonneg he0]; exact ha.symm
  rw [← ha] at HO
  clear ha hT hA hk
  go_enter Tryd.func48, Tryd.ntmps48
  go_upto_region 1 with (fail)
  rw [← hW]
  clear hW
  go_wp2_with fail
  refine HC1.out.mono ?_
  rintro e w1 ⟨B, d, rfl, hr, hb1⟩
  have HR := Lib.hid hr
  clear hr
  go_wp2_with fail
  refine (HC2.out B d w1 hb1 HR.out).mono ?_
  rintro e w2 ⟨rfl, hb2⟩
  go_wp2_with fail
  go_ret
  exact ⟨ret_int (by rw [HO.out]; omega), bel_then (bel_then hbW hb1) hb2⟩
end Go.Proofs.YtpidpbjbgjkaaaaDoor
