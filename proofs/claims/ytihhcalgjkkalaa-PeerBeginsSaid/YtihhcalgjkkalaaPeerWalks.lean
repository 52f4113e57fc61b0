/- The walks of peer.within, Right, copied, made, Wait, Ask. -/
import Derived.Test.YtihhcalgjkkalaaPeerPlain
import Derived.Test.YtihhcalgjkkalaaStateSeq
import Derived.Test.YtihhcalgjkkalaaBytesS
import Derived.Test.YtihhcalgjkkalaaBlkOps
import Derived.Deep.RegionHeld3
import Derived.Deep.Cut
namespace Go.Proofs.Ytihhcalgjkkalaa
open Go.RowKit
set_option linter.unusedVariables false
theorem cells11 {w : World} {g : Nat} {T : TypeId} {v0 v1 v2 v3 v4 v5 v6 v7 v8 v9 v10 : Value} (h : BlkV w g T [v0, v1, v2, v3, v4, v5, v6, v7, v8, v9, v10]) : w.cell? ⟨g, 0, none⟩ = some v0 ∧ w.cell? ⟨g, 1, none⟩ = some v1 ∧ w.cell? ⟨g, 2, none⟩ = some v2 ∧ w.cell? ⟨g, 3, none⟩ = some v3 ∧ w.cell? ⟨g, 4, none⟩ = some v4 ∧ w.cell? ⟨g, 5, none⟩ = some v5 ∧ w.cell? ⟨g, 6, none⟩ = some v6 ∧ w.cell? ⟨g, 7, none⟩ = some v7 ∧ w.cell? ⟨g, 8, none⟩ = some v8 ∧ w.cell? ⟨g, 9, none⟩ = some v9 ∧ w.cell? ⟨g, 10, none⟩ = some v10 :=
  ⟨h.cell rfl, h.cell rfl, h.cell rfl, h.cell rfl, h.cell rfl, h.cell rfl, h.cell rfl, h.cell rfl, h.cell rfl, h.cell rfl, h.cell rfl⟩
theorem peer_size {l : List Value} (h : l.length = 11) : (Try.prog.info? 26).map (·.size) = some l.length := by
  rw [h]
  kernel_rfl
theorem pwithin_spec (n a b : Int) (w : World) : Calls Try.prog 23 #[.int .i64 n, .int .i64 a, .int .i64 b] w fun e w' => e = .returned (.bool (Peer.within n a b)) ∧ w = w' := by
  obtain ⟨x, hx⟩ : ∃ x, decide (a ≤ n) = x := ⟨_, rfl⟩
  have HX : Hid (Peer.within n a b = (x && decide (n ≤ b))) := Lib.hid (by unfold Peer.within; rw [hx])
  cases x
  all_goals
    go_enter Try.func23, Try.ntmps23
    go_wp2
    go_ret
    exact ⟨ret_bool (by rw [HX.out]; simp), rfl⟩
set_option maxHeartbeats 4000000 in
theorem pright_spec (p : Peer.P) (w : World) (hd : p.d.n ≤ 9223372036854775806) : Calls Try.prog 22 #[.agg #[.int .i64 p.st, .int .i64 p.port, .int .i64 p.to, .int .u32 p.fi, .int .u32 p.un, .int .u32 p.ne, .int .u32 p.wa, .int .i64 p.wi, .int .i64 p.ot, .slice p.d.A p.d.n p.d.c, .slice p.g.A p.g.n p.g.c]] w fun e w' => e = .returned (.bool (Peer.right p)) ∧ Below w.heap.size w w' := by
  obtain ⟨W, hW⟩ : ∃ W, W = w.alloc (.cells #[.int .i64 p.st, .int .i64 p.port, .int .i64 p.to, .int .u32 p.fi, .int .u32 p.un, .int .u32 p.ne, .int .u32 p.wa, .int .i64 p.wi, .int .i64 p.ot, .slice p.d.A p.d.n p.d.c, .slice p.g.A p.g.n p.g.c] 26) := ⟨_, rfl⟩
  have hbW : Below w.heap.size w W := by rw [hW]; exact (Below.refl _ _).alloc (Nat.le_refl _) _
  have BT : BlkV W w.heap.size 26 [.int .i64 p.st, .int .i64 p.port, .int .i64 p.to, .int .u32 p.fi, .int .u32 p.un, .int .u32 p.ne, .int .u32 p.wa, .int .i64 p.wi, .int .i64 p.ot, .slice p.d.A p.d.n p.d.c, .slice p.g.A p.g.n p.g.c] := by rw [hW]; exact BlkV.new _ _ _
  obtain ⟨c0, c1, c2, c3, c4, c5, c6, c7, c8, c9, c10⟩ := cells11 BT
  obtain ⟨b0, h0⟩ : ∃ b, Peer.within p.st 0 4 = b := ⟨_, rfl⟩
  obtain ⟨b1, h1⟩ : ∃ b, Peer.within p.port 0 65535 = b := ⟨_, rfl⟩
  obtain ⟨b2, h2⟩ : ∃ b, Peer.within p.to 0 65535 = b := ⟨_, rfl⟩
  obtain ⟨b3, h3⟩ : ∃ b, Peer.within p.wi 1 65535 = b := ⟨_, rfl⟩
  obtain ⟨b4, h4⟩ : ∃ b, Peer.within p.ot 0 65535 = b := ⟨_, rfl⟩
  obtain ⟨b8, h8⟩ : ∃ b, Peer.within (Seq.dist p.fi p.un) 0 (Seq.dist p.fi p.ne) = b := ⟨_, rfl⟩
  have H0 := Lib.hid (pwithin_spec p.st 0 4)
  have H1 := Lib.hid (pwithin_spec p.port 0 65535)
  have H2 := Lib.hid (pwithin_spec p.to 0 65535)
  have H3 := Lib.hid (pwithin_spec p.wi 1 65535)
  have H4 := Lib.hid (pwithin_spec p.ot 0 65535)
  have H8 := Lib.hid (pwithin_spec (Seq.dist p.fi p.un) 0 (Seq.dist p.fi p.ne))
  have D1 := Lib.hid (seq_dist p.fi p.un)
  have D2 := Lib.hid (seq_dist p.fi p.ne)
  have HR : Hid (Peer.right p = (b0 && (b1 && (b2 && (b3 && (b4 && (decide (p.d.n ≤ 65536) && (decide (p.g.n ≤ 65536) && (decide (p.st ≤ 1) || (b8 && decide (Seq.dist p.fi p.ne ≤ p.d.n + 1))))))))))) := Lib.hid (by unfold Peer.right Peer.inOrder; rw [h0, h1, h2, h3, h4, h8])
  rw [h0] at H0
  rw [h1] at H1
  rw [h2] at H2
  rw [h3] at H3
  rw [h4] at H4
  rw [h8] at H8
  clear h0 h1 h2 h3 h4 h8 BT
  generalize Peer.right p = rt at HR ⊢
  have hdb := Seq.dist_bd p.fi p.ne
  have hda := Seq.dist_bd p.fi p.un
  generalize Seq.dist p.fi p.ne = dn at H8 D2 HR hdb
  generalize Seq.dist p.fi p.un = du at H8 D1 hda
  by_cases g0 : b0 = false ∨ b1 = false ∨ b2 = false ∨ b3 = false ∨ b4 = false ∨ 65536 < p.d.n ∨ 65536 < p.g.n
  · obtain rfl : rt = false := by
      rw [HR.out]
      rcases g0 with rfl | rfl | rfl | rfl | rfl | g0 | g0
      · rfl
      · simp
      · simp
      · simp
      · simp
      · rw [decide_eq_false (show ¬ p.d.n ≤ 65536 by omega)]; simp
      · rw [decide_eq_false (show ¬ p.g.n ≤ 65536 by omega)]; simp
    clear HR
    rcases (show b0 = false ∨ (b0 = true ∧ b1 = false) ∨ (b0 = true ∧ b1 = true ∧ b2 = false) ∨ (b0 = true ∧ b1 = true ∧ b2 = true ∧ b3 = false) ∨ (b0 = true ∧ b1 = true ∧ b2 = true ∧ b3 = true ∧ b4 = false) ∨ (b0 = true ∧ b1 = true ∧ b2 = true ∧ b3 = true ∧ b4 = true ∧ 65536 < p.d.n) ∨ (b0 = true ∧ b1 = true ∧ b2 = true ∧ b3 = true ∧ b4 = true ∧ ¬ 65536 < p.d.n ∧ 65536 < p.g.n) by
      revert g0; cases b0 <;> cases b1 <;> cases b2 <;> cases b3 <;> cases b4 <;> simp <;> omega) with rfl | ⟨rfl, rfl⟩ | ⟨rfl, rfl, rfl⟩ | ⟨rfl, rfl, rfl, rfl⟩ | ⟨rfl, rfl, rfl, rfl, rfl⟩ | ⟨rfl, rfl, rfl, rfl, rfl, g1⟩ | ⟨rfl, rfl, rfl, rfl, rfl, g1, g2⟩
    case inr.inr.inr.inr.inr.inl =>
      have z1 : (65536 : Int) < (p.d.n : Int) := by omega
      go_enter Try.func22, Try.ntmps22
      go_upto_region 1 with (fail)
      rw [← hW]
      clear hW
      go_wp2_with ((with_reducible first | refine (H0.out _).mono ?_ | refine (H1.out _).mono ?_ | refine (H2.out _).mono ?_ | refine (H3.out _).mono ?_ | refine (H4.out _).mono ?_); rintro e w' ⟨rfl, rfl⟩)
      go_ret
      exact ⟨rfl, hbW⟩
    case inr.inr.inr.inr.inr.inr =>
      have z1 : ¬ (65536 : Int) < (p.d.n : Int) := by omega
      have z2 : (65536 : Int) < (p.g.n : Int) := by omega
      go_enter Try.func22, Try.ntmps22
      go_upto_region 1 with (fail)
      rw [← hW]
      clear hW
      go_wp2_with ((with_reducible first | refine (H0.out _).mono ?_ | refine (H1.out _).mono ?_ | refine (H2.out _).mono ?_ | refine (H3.out _).mono ?_ | refine (H4.out _).mono ?_); rintro e w' ⟨rfl, rfl⟩)
      go_ret
      exact ⟨rfl, hbW⟩
    all_goals
      go_enter Try.func22, Try.ntmps22
      go_upto_region 1 with (fail)
      rw [← hW]
      clear hW
      go_wp2_with ((with_reducible first | refine (H0.out _).mono ?_ | refine (H1.out _).mono ?_ | refine (H2.out _).mono ?_ | refine (H3.out _).mono ?_ | refine (H4.out _).mono ?_); rintro e w' ⟨rfl, rfl⟩)
      go_ret
      exact ⟨rfl, hbW⟩
  · obtain ⟨k0, k1, k2, k3, k4, k5, k6⟩ : b0 = true ∧ b1 = true ∧ b2 = true ∧ b3 = true ∧ b4 = true ∧ p.d.n ≤ 65536 ∧ p.g.n ≤ 65536 := by
      revert g0; cases b0 <;> cases b1 <;> cases b2 <;> cases b3 <;> cases b4 <;> simp <;> omega
    subst k0 k1 k2 k3 k4
    have HR2 : Hid (rt = (decide (p.st ≤ 1) || (b8 && decide (dn ≤ p.d.n + 1)))) := Lib.hid (by rw [HR.out, decide_eq_true k5, decide_eq_true k6]; simp)
    have z1 : ¬ (65536 : Int) < (p.d.n : Int) := by omega
    have z2 : ¬ (65536 : Int) < (p.g.n : Int) := by omega
    clear HR g0
    by_cases hs : p.st ≤ 1
    · obtain rfl : rt = true := by rw [HR2.out, decide_eq_true hs]; rfl
      go_enter Try.func22, Try.ntmps22
      go_upto_region 1 with (fail)
      rw [← hW]
      clear hW
      go_wp2_with ((with_reducible first | refine (H0.out _).mono ?_ | refine (H1.out _).mono ?_ | refine (H2.out _).mono ?_ | refine (H3.out _).mono ?_ | refine (H4.out _).mono ?_); rintro e w' ⟨rfl, rfl⟩)
      go_ret
      exact ⟨rfl, hbW⟩
    · have HR3 : Hid (rt = (b8 && decide (dn ≤ p.d.n + 1))) := Lib.hid (by rw [HR2.out, decide_eq_false hs]; rfl)
      clear HR2
      have D1' : Hid (∀ q, Calls Try.prog 30 #[.int .u32 p.fi, .int .u32 p.un] (W.drewN q) fun e w' => e = .returned (.int .i64 du) ∧ ∃ m, w' = W.drewN m) := Lib.hid fun q => (D1.out _).mono fun e w' ⟨h1, h2⟩ => ⟨h1, q, h2.symm⟩
      have D2' : Hid (∀ q, Calls Try.prog 30 #[.int .u32 p.fi, .int .u32 p.ne] (W.drewN q) fun e w' => e = .returned (.int .i64 dn) ∧ ∃ m, w' = W.drewN m) := Lib.hid fun q => (D2.out _).mono fun e w' ⟨h1, h2⟩ => ⟨h1, q, h2.symm⟩
      cases b8
      all_goals
        go_enter Try.func22, Try.ntmps22
        go_upto_region 1 with (fail)
        rw [← hW]
        clear hW
        go_wp2_with ((with_reducible first | refine (H0.out _).mono ?_ | refine (H1.out _).mono ?_ | refine (H2.out _).mono ?_ | refine (H3.out _).mono ?_ | refine (H4.out _).mono ?_); rintro e w' ⟨rfl, rfl⟩)
        go_quiet (with_reducible first | exact D1'.out _ | exact D2'.out _)
        go_wp2_with ((with_reducible refine (H8.out _).mono ?_); rintro e w' ⟨rfl, rfl⟩)
        go_ret
        exact ⟨ret_bool (by rw [HR3.out]; simp <;> omega), bel_n hbW _⟩
end Go.Proofs.Ytihhcalgjkkalaa
