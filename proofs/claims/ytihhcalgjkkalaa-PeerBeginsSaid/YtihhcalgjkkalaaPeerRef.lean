/- The walks of the reference's dist, Right (printed by tools/gen_peerref.py). -/
import Derived.Test.YtihhcalgjkkalaaPeerWalks
namespace Go.Proofs.Ytihhcalgjkkalaa
open Go.RowKit
set_option linter.unusedVariables false
set_option linter.unusedSimpArgs false
theorem rdist0_spec (a b : Int) (w : World) (ha0 : 0 ≤ a) (ha1 : a ≤ 4294967295) (hb0 : 0 ≤ b) (hb1 : b ≤ 4294967295) :
    Calls Try.prog 33 #[.int .u32 a, .int .u32 b] w fun e w' => e = .returned (.int .i64 (Seq.dist a b)) ∧ w = w' := by
  obtain ⟨v, hv⟩ : ∃ v, Seq.dist a b = v := ⟨_, rfl⟩
  have HV : Hid (v = if b - a < -2147483648 then b - a + 4294967296 else if 2147483648 ≤ b - a then b - a - 4294967296 else b - a) := Lib.hid (by
    rw [← hv]
    unfold Seq.dist wrap64 wrap32
    split <;> (try split) <;> omega)
  rw [hv]
  clear hv
  by_cases h0 : b - a < 0
  · by_cases h1 : 2147483648 ≤ b - a + 4294967296
    all_goals
      go_enter Try.func33, Try.ntmps33
      go_wp2_with fail
      go_ret
      exact ⟨ret_int (by rw [HV.out]; split <;> (try split) <;> omega), rfl⟩
  · by_cases h1 : 2147483648 ≤ b - a
    all_goals
      go_enter Try.func33, Try.ntmps33
      go_wp2_with fail
      go_ret
      exact ⟨ret_int (by rw [HV.out]; split <;> (try split) <;> omega), rfl⟩
theorem rdist_spec (a b : Int) (w : World) (ha0 : 0 ≤ a) (ha1 : a ≤ 4294967295) (hb0 : 0 ≤ b) (hb1 : b ≤ 4294967295) :
    Calls Try.prog 20 #[.int .u32 a, .int .u32 b] w fun e w' => e = .returned (.int .i64 (Seq.dist a b)) ∧ w = w' := by
  have HD := Lib.hid (fun w => rdist0_spec a b w ha0 ha1 hb0 hb1)
  go_enter Try.func20, Try.ntmps20
  go_wp2_with (with_reducible refine (HD.out _).mono ?_; rintro e w' ⟨rfl, rfl⟩)
  go_ret
  exact ⟨rfl, rfl⟩
theorem Peer.within_no {n a b : Int} (h : n < a ∨ b < n) : Peer.within n a b = false := by
  unfold Peer.within
  rcases h with h | h
  · rw [decide_eq_false (by omega)]; rfl
  · rw [decide_eq_false (show ¬ n ≤ b by omega)]; simp
theorem Peer.within_yes {n a b : Int} (h0 : a ≤ n) (h1 : n ≤ b) : Peer.within n a b = true := by
  unfold Peer.within
  rw [decide_eq_true h0, decide_eq_true h1]; rfl
/-- what the loop of the reference's Right has seen -/
def Peer.seen (p : Peer.P) : Nat → Bool
  | 0 => Peer.within p.st 0 4
  | 1 => Peer.within p.port 0 65535
  | 2 => Peer.within p.to 0 65535
  | 3 => Peer.within p.wi 1 65535
  | _ => Peer.within p.ot 0 65535
theorem Peer.right_seen (p : Peer.P) {i : Nat} (hi : i < 5) (h : Peer.seen p i = false) : Peer.right p = false := by
  unfold Peer.right
  rcases (show i = 0 ∨ i = 1 ∨ i = 2 ∨ i = 3 ∨ i = 4 by omega) with rfl | rfl | rfl | rfl | rfl <;> simp only [Peer.seen] at h <;> rw [h] <;> simp
theorem Peer.right_all (p : Peer.P) (h : ∀ i, i < 5 → Peer.seen p i = true) : Peer.right p = (decide (p.d.n ≤ 65536) && (decide (p.g.n ≤ 65536) && (decide (p.st ≤ 1) || Peer.inOrder p))) := by
  have h0 := h 0 (by omega)
  have h1 := h 1 (by omega)
  have h2 := h 2 (by omega)
  have h3 := h 3 (by omega)
  have h4 := h 4 (by omega)
  simp only [Peer.seen] at h0 h1 h2 h3 h4
  unfold Peer.right
  rw [h0, h1, h2, h3, h4]
  rfl
set_option maxHeartbeats 8000000 in
theorem rright_spec (p : Peer.P) (w : World) (hp : p.ok w) (hd : p.d.n ≤ 9223372036854775806) : Calls Try.prog 10 #[.agg #[.int .i64 p.st, .int .i64 p.port, .int .i64 p.to, .int .u32 p.fi, .int .u32 p.un, .int .u32 p.ne, .int .u32 p.wa, .int .i64 p.wi, .int .i64 p.ot, .slice p.d.A p.d.n p.d.c, .slice p.g.A p.g.n p.g.c]] w fun e w' => e = .returned (.bool (Peer.right p)) ∧ Below w.heap.size w w' := by
  obtain ⟨W, hW⟩ : ∃ W, W = w.alloc (.cells #[.int .i64 p.st, .int .i64 p.port, .int .i64 p.to, .int .u32 p.fi, .int .u32 p.un, .int .u32 p.ne, .int .u32 p.wa, .int .i64 p.wi, .int .i64 p.ot, .slice p.d.A p.d.n p.d.c, .slice p.g.A p.g.n p.g.c] 26) := ⟨_, rfl⟩
  have hbW : Below w.heap.size w W := by rw [hW]; exact (Below.refl _ _).alloc (Nat.le_refl _) _
  have BT : BlkV W w.heap.size 26 [.int .i64 p.st, .int .i64 p.port, .int .i64 p.to, .int .u32 p.fi, .int .u32 p.un, .int .u32 p.ne, .int .u32 p.wa, .int .i64 p.wi, .int .i64 p.ot, .slice p.d.A p.d.n p.d.c, .slice p.g.A p.g.n p.g.c] := by rw [hW]; exact BlkV.new _ _ _
  have HBT := Lib.hid BT
  obtain ⟨c0, c1, c2, c3, c4, c5, c6, c7, c8, c9, c10⟩ := cells11 BT
  obtain ⟨rt, hrt⟩ : ∃ rt, Peer.right p = rt := ⟨_, rfl⟩
  have HNO : Hid (∀ i, i < 5 → Peer.seen p i = false → rt = false) := Lib.hid fun i hi h => by rw [← hrt]; exact Peer.right_seen p hi h
  have HAL : Hid ((∀ i, i < 5 → Peer.seen p i = true) → rt = (decide (p.d.n ≤ 65536) && (decide (p.g.n ≤ 65536) && (decide (p.st ≤ 1) || Peer.inOrder p)))) := Lib.hid fun h => by rw [← hrt]; exact Peer.right_all p h
  have D1 := Lib.hid (fun w => rdist_spec p.fi p.un w hp.fi.1 hp.fi.2 hp.un.1 hp.un.2)
  have D2 := Lib.hid (fun w => rdist_spec p.fi p.ne w hp.fi.1 hp.fi.2 hp.ne.1 hp.ne.2)
  have hdb := Seq.dist_bd p.fi p.ne
  have hda := Seq.dist_bd p.fi p.un
  rw [hrt]
  clear hrt hp BT
  have x0 : ∀ w, (Instr.index 55 (.agg #[.int .i64 p.st, .int .i64 p.port, .int .i64 p.to, .int .i64 p.wi, .int .i64 p.ot]) (.int .i64 0)).run Try.prog w = .ok (.int .i64 p.st) w := fun _ => by kernel_rfl
  have x1 : ∀ w, (Instr.index 55 (.agg #[.int .i64 p.st, .int .i64 p.port, .int .i64 p.to, .int .i64 p.wi, .int .i64 p.ot]) (.int .i64 1)).run Try.prog w = .ok (.int .i64 p.port) w := fun _ => by kernel_rfl
  have x2 : ∀ w, (Instr.index 55 (.agg #[.int .i64 p.st, .int .i64 p.port, .int .i64 p.to, .int .i64 p.wi, .int .i64 p.ot]) (.int .i64 2)).run Try.prog w = .ok (.int .i64 p.to) w := fun _ => by kernel_rfl
  have x3 : ∀ w, (Instr.index 55 (.agg #[.int .i64 p.st, .int .i64 p.port, .int .i64 p.to, .int .i64 p.wi, .int .i64 p.ot]) (.int .i64 3)).run Try.prog w = .ok (.int .i64 p.wi) w := fun _ => by kernel_rfl
  have x4 : ∀ w, (Instr.index 55 (.agg #[.int .i64 p.st, .int .i64 p.port, .int .i64 p.to, .int .i64 p.wi, .int .i64 p.ot]) (.int .i64 4)).run Try.prog w = .ok (.int .i64 p.ot) w := fun _ => by kernel_rfl
  go_enter Try.func10, Try.ntmps10
  go_upto_region 1 with (fail)
  rw [← hW]
  clear hW
  go_wp2_with fail
  go_loopg [19] 5 (fun gg s19 wx => ∃ i : Nat, i + gg = 5 ∧ s19 = .int .i64 i ∧ wx = W ∧ Hid (∀ j, j < i → Peer.seen p j = true))
  case atStart => exact ⟨0, by omega, rfl, rfl, Lib.hid fun j hj => absurd hj (by omega)⟩
  case round =>
    obtain ⟨i, hig, rfl, rfl, hall⟩ := hrel
    cases gk with
    | zero =>
      obtain rfl : i = 5 := by omega
      have HR := Lib.hid (HAL.out hall.out)
      clear HAL HNO hall x0 x1 x2 x3 x4
      by_cases h1 : 65536 < p.d.n
      · have z1 : (65536 : Int) < (p.d.n : Int) := by omega
        obtain rfl : rt = false := by rw [HR.out, decide_eq_false (show ¬ p.d.n ≤ 65536 by omega)]; rfl
        go_wp2_with fail
        go_ret
        exact ⟨rfl, hbW⟩
      have z1 : ¬ (65536 : Int) < (p.d.n : Int) := by omega
      by_cases h2 : 65536 < p.g.n
      · have z2 : (65536 : Int) < (p.g.n : Int) := by omega
        obtain rfl : rt = false := by rw [HR.out, decide_eq_false (show ¬ p.g.n ≤ 65536 by omega)]; simp
        go_wp2_with fail
        go_ret
        exact ⟨rfl, hbW⟩
      have z2 : ¬ (65536 : Int) < (p.g.n : Int) := by omega
      have HR2 : Hid (rt = (decide (p.st ≤ 1) || Peer.inOrder p)) := Lib.hid (by rw [HR.out, decide_eq_true (show p.d.n ≤ 65536 by omega), decide_eq_true (show p.g.n ≤ 65536 by omega)]; rfl)
      clear HR
      by_cases h3 : p.st < 2
      · obtain rfl : rt = true := by rw [HR2.out, decide_eq_true (show p.st ≤ 1 by omega)]; rfl
        go_wp2_with fail
        go_ret
        exact ⟨rfl, hbW⟩
      have HR3 : Hid (rt = Peer.inOrder p) := Lib.hid (by rw [HR2.out, decide_eq_false (show ¬ p.st ≤ 1 by omega)]; rfl)
      have HI : Hid (Peer.inOrder p = decide (0 ≤ Seq.dist p.fi p.un ∧ Seq.dist p.fi p.un ≤ Seq.dist p.fi p.ne ∧ Seq.dist p.fi p.ne ≤ p.d.n + 1)) := Lib.hid (by unfold Peer.inOrder Peer.within; rw [Bool.eq_iff_iff]; simp only [Bool.and_eq_true, decide_eq_true_eq]; omega)
      have D1' : Hid (∀ q, Calls Try.prog 20 #[.int .u32 p.fi, .int .u32 p.un] (wr.drewN q) fun e w' => e = .returned (.int .i64 (Seq.dist p.fi p.un)) ∧ ∃ m, w' = wr.drewN m) := Lib.hid fun q => (D1.out _).mono fun e w' ⟨h1, h2⟩ => ⟨h1, q, h2.symm⟩
      have D2' : Hid (∀ q, Calls Try.prog 20 #[.int .u32 p.fi, .int .u32 p.ne] (wr.drewN q) fun e w' => e = .returned (.int .i64 (Seq.dist p.fi p.ne)) ∧ ∃ m, w' = wr.drewN m) := Lib.hid fun q => (D2.out _).mono fun e w' ⟨h1, h2⟩ => ⟨h1, q, h2.symm⟩
      clear HR2 D1 D2
      generalize Seq.dist p.fi p.ne = dn at D2' HI hdb
      generalize Seq.dist p.fi p.un = du at D1' HI hda
      by_cases k0 : du < 0
      case' neg => by_cases k1 : dn < du
      all_goals
        go_wp2_with fail
        go_quiet (with_reducible first | exact D1'.out _ | exact D2'.out _)
        go_wp2_with fail
        go_ret
        exact ⟨ret_bool (by rw [HR3.out, HI.out, Bool.eq_iff_iff]; simp <;> omega), bel_n hbW _⟩
    | succ g =>
      have hi5 : (i : Int) < 5 := by omega
      have HK : Hid (∀ b, Peer.seen p i = b → b = true → ∀ j, j < i + 1 → Peer.seen p j = true) := Lib.hid fun b h1 h2 j hj => by
        rcases (show j = i ∨ j < i by omega) with rfl | h
        · rw [h1, h2]
        · exact hall.out j h
      clear hall HAL D1 D2 hdb hda
      rcases (show i = 0 ∨ i = 1 ∨ i = 2 ∨ i = 3 ∨ i = 4 by omega) with rfl | rfl | rfl | rfl | rfl
      · by_cases h0 : p.st < 0
        · obtain rfl := HNO.out 0 (by omega) (Peer.within_no (by omega))
          clear HNO HK
          go_wp2_with fail
          go_ret
          exact ⟨rfl, hbW⟩
        by_cases h1 : 4 < p.st
        · obtain rfl := HNO.out 0 (by omega) (Peer.within_no (by omega))
          clear HNO HK
          go_wp2_with fail
          go_ret
          exact ⟨rfl, hbW⟩
        have HK2 := Lib.hid (HK.out true (Peer.within_yes (by omega) (by omega)) rfl)
        clear HK
        go_wp2_with fail
        go_roundg g
        case measure => omega
        case rel => exact ⟨0 + 1, by omega, by go_num, rfl, HK2⟩
      · by_cases h0 : p.port < 0
        · obtain rfl := HNO.out 1 (by omega) (Peer.within_no (by omega))
          clear HNO HK
          go_wp2_with fail
          go_ret
          exact ⟨rfl, hbW⟩
        by_cases h1 : 65535 < p.port
        · obtain rfl := HNO.out 1 (by omega) (Peer.within_no (by omega))
          clear HNO HK
          go_wp2_with fail
          go_ret
          exact ⟨rfl, hbW⟩
        have HK2 := Lib.hid (HK.out true (Peer.within_yes (by omega) (by omega)) rfl)
        clear HK
        go_wp2_with fail
        go_roundg g
        case measure => omega
        case rel => exact ⟨1 + 1, by omega, by go_num, rfl, HK2⟩
      · by_cases h0 : p.to < 0
        · obtain rfl := HNO.out 2 (by omega) (Peer.within_no (by omega))
          clear HNO HK
          go_wp2_with fail
          go_ret
          exact ⟨rfl, hbW⟩
        by_cases h1 : 65535 < p.to
        · obtain rfl := HNO.out 2 (by omega) (Peer.within_no (by omega))
          clear HNO HK
          go_wp2_with fail
          go_ret
          exact ⟨rfl, hbW⟩
        have HK2 := Lib.hid (HK.out true (Peer.within_yes (by omega) (by omega)) rfl)
        clear HK
        go_wp2_with fail
        go_roundg g
        case measure => omega
        case rel => exact ⟨2 + 1, by omega, by go_num, rfl, HK2⟩
      · by_cases h0 : p.wi < 0
        · obtain rfl := HNO.out 3 (by omega) (Peer.within_no (by omega))
          clear HNO HK
          go_wp2_with fail
          go_ret
          exact ⟨rfl, hbW⟩
        by_cases h1 : 65535 < p.wi
        · obtain rfl := HNO.out 3 (by omega) (Peer.within_no (by omega))
          clear HNO HK
          go_wp2_with fail
          go_ret
          exact ⟨rfl, hbW⟩
        by_cases h2 : p.wi = 0
        · obtain rfl := HNO.out 3 (by omega) (Peer.within_no (by omega))
          have hq : (p.wi == 0) = true := by rw [h2]; rfl
          clear HNO HK h2
          go_wp2_with fail
          go_ret
          exact ⟨rfl, hbW⟩
        have hq : (p.wi == 0) = false := by simp [h2]
        have HK2 := Lib.hid (HK.out true (Peer.within_yes (by omega) (by omega)) rfl)
        clear HK
        go_wp2_with fail
        go_roundg g
        case measure => omega
        case rel => exact ⟨3 + 1, by omega, by go_num, rfl, HK2⟩
      · by_cases h0 : p.ot < 0
        · obtain rfl := HNO.out 4 (by omega) (Peer.within_no (by omega))
          clear HNO HK
          go_wp2_with fail
          go_ret
          exact ⟨rfl, hbW⟩
        by_cases h1 : 65535 < p.ot
        · obtain rfl := HNO.out 4 (by omega) (Peer.within_no (by omega))
          clear HNO HK
          go_wp2_with fail
          go_ret
          exact ⟨rfl, hbW⟩
        have HK2 := Lib.hid (HK.out true (Peer.within_yes (by omega) (by omega)) rfl)
        clear HK
        go_wp2_with fail
        go_roundg g
        case measure => omega
        case rel => exact ⟨4 + 1, by omega, by go_num, rfl, HK2⟩
end Go.Proofs.Ytihhcalgjkkalaa
