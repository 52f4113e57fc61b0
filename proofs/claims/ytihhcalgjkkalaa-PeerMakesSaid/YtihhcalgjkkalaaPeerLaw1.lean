/- The walk of PeerMakes. -/
import Derived.Test.YtihhcalgjkkalaaPeerAwake
import Derived.Test.YtihhcalgjkkalaaPeerSame
namespace Go.Proofs.Ytihhcalgjkkalaa
open Go.RowKit
set_option linter.unusedVariables false
set_option linter.unusedSimpArgs false
def Peer.zero : Peer.P := ⟨0, 0, 0, 0, 0, 0, 0, 0, 0, Peer.nil, Peer.nil⟩
set_option maxHeartbeats 8000000 in
theorem peermakes_long (port to_ first win : Int) (A : Option Addr) (n c : Nat) (w : World) (hn : 2000 < n) :
    Calls Try.prog 3 #[.int .i64 port, .int .i64 to_, .int .u32 first, .int .i64 win, .slice A n c] w fun e w' => e = .returned (.bool true) ∧ Below w.heap.size w w' := by
  have HA := Lib.hid (peer_awake w)
  have hz : (2000 : Int) < (n : Int) := by omega
  go_enter Try.func3, Try.ntmps3
  go_wp2_with fail
  refine HA.out.mono ?_
  rintro e w1 ⟨rfl, hb1⟩
  go_wp2_with fail
  go_ret
  exact ⟨rfl, hb1⟩
set_option maxHeartbeats 16000000 in
theorem peermakes_walk (port to_ first win : Int) (A : Option Addr) (n c : Nat) (l : List Int) (w : World) (h0 : 0 ≤ first) (h1 : first ≤ 4294967295) (hR : Rd w 1 A n (bs l)) (hB : isB l) (hn : n ≤ 2000) :
    Calls Try.prog 3 #[.int .i64 port, .int .i64 to_, .int .u32 first, .int .i64 win, .slice A n c] w fun e w' => e = .returned (.bool true) ∧ Below w.heap.size w w' := by
  have HA := Lib.hid (peer_awake w)
  have hz : ¬ (2000 : Int) < (n : Int) := by omega
  have HRd := Lib.hid hR
  have HS := Lib.hid (fun w => seq_step first 1 w)
  have HW : Hid (∀ w', Below w.heap.size w w' → Calls Try.prog 7 #[.int .i64 port, .int .u32 first, .int .i64 win, .slice A n c] w' (MadeR (Peer.waiting port first win ⟨A, n, c, l⟩) w')) := Lib.hid fun w' hb =>
    pwait_spec port first win ⟨A, n, c, l⟩ w' h0 h1 ⟨hR.below hb, hB, by show n ≤ _; omega⟩ (by show n ≤ _; omega)
  have HK : Hid (∀ w', Below w.heap.size w w' → Calls Try.prog 8 #[.int .i64 port, .int .i64 to_, .int .u32 first, .int .i64 win, .slice A n c] w' (MadeR (Peer.asking port to_ first win ⟨A, n, c, l⟩) w')) := Lib.hid fun w' hb =>
    pask_spec port to_ first win ⟨A, n, c, l⟩ w' h0 h1 ⟨hR.below hb, hB, by show n ≤ _; omega⟩ (by show n ≤ _; omega)
  obtain ⟨rx, hrx⟩ : ∃ b, Peer.right (Peer.waiting port first win ⟨A, n, c, l⟩) = b := ⟨_, rfl⟩
  obtain ⟨ry, hry⟩ : ∃ b, Peer.right (Peer.asking port to_ first win ⟨A, n, c, l⟩) = b := ⟨_, rfl⟩
  have HX : Hid (∀ w', Below w.heap.size w w' → Calls Try.prog 10 #[.agg #[.int .i64 1, .int .i64 port, .int .i64 0, .int .u32 first, .int .u32 0, .int .u32 0, .int .u32 0, .int .i64 win, .int .i64 0, .slice A n c, .slice none 0 0]] w' fun e w'' => e = .returned (.bool rx) ∧ Below w'.heap.size w' w'') := Lib.hid fun w' hb => by
    rw [← hrx]
    exact rright_spec (Peer.waiting port first win ⟨A, n, c, l⟩) w' (Peer.waiting_ok h0 h1 ⟨hR.below hb, hB, by show n ≤ _; omega⟩) (by show n ≤ _; omega)
  have HY : Hid (∀ w', Below w.heap.size w w' → Calls Try.prog 10 #[.agg #[.int .i64 2, .int .i64 port, .int .i64 to_, .int .u32 first, .int .u32 first, .int .u32 (Seq.step first 1), .int .u32 0, .int .i64 win, .int .i64 0, .slice A n c, .slice none 0 0]] w' fun e w'' => e = .returned (.bool ry) ∧ Below w'.heap.size w' w'') := Lib.hid fun w' hb => by
    rw [← hry]
    exact rright_spec (Peer.asking port to_ first win ⟨A, n, c, l⟩) w' (Peer.asking_ok h0 h1 ⟨hR.below hb, hB, by show n ≤ _; omega⟩) (by show n ≤ _; omega)
  have SZ : Hid (∀ w', Calls Try.prog 11 #[.agg #[.int .i64 0, .int .i64 0, .int .i64 0, .int .u32 0, .int .u32 0, .int .u32 0, .int .u32 0, .int .i64 0, .int .i64 0, .slice none 0 0, .slice none 0 0], .agg #[.int .i64 0, .int .i64 0, .int .i64 0, .int .u32 0, .int .u32 0, .int .u32 0, .int .u32 0, .int .i64 0, .int .i64 0, .slice none 0 0, .slice none 0 0]] w' fun e w'' => e = .returned (.bool true) ∧ Below w'.heap.size w' w'') := Lib.hid fun w' =>
    rsame_spec Peer.zero Peer.nil Peer.nil w' (Rd.nil_ _) (Rd.nil_ _) (Rd.nil_ _) (Rd.nil_ _)
  have HRX := Lib.hid hrx
  have HRY := Lib.hid hry
  clear hR hB hrx hry
  go_enter Try.func3, Try.ntmps3
  go_wp2_with fail
  refine HA.out.mono ?_
  rintro e w1 ⟨rfl, hb1⟩
  clear HA
  go_wp2_with fail
  refine (HW.out w1 hb1).mono ?_
  clear HW
  rintro e w2 ⟨hb2, ⟨hr, rfl⟩ | ⟨hr, A2, k2, rfl, own2⟩⟩
  all_goals
    have hrq := HRX.out.symm.trans hr
    subst hrq
    have hw2 := bel_then hb1 hb2
  case' inl => have HSA : Hid (∀ w', Below w2.heap.size w2 w' → Calls Try.prog 11 #[.agg #[.int .i64 0, .int .i64 0, .int .i64 0, .int .u32 0, .int .u32 0, .int .u32 0, .int .u32 0, .int .i64 0, .int .i64 0, .slice none 0 0, .slice none 0 0], .agg #[.int .i64 0, .int .i64 0, .int .i64 0, .int .u32 0, .int .u32 0, .int .u32 0, .int .u32 0, .int .i64 0, .int .i64 0, .slice none 0 0, .slice none 0 0]] w' fun e w'' => e = .returned (.bool true) ∧ Below w'.heap.size w' w'') := Lib.hid fun w' _ => SZ.out w'
  case' inr => have HSA : Hid (∀ w', Below w2.heap.size w2 w' → Calls Try.prog 11 #[.agg #[.int .i64 1, .int .i64 port, .int .i64 0, .int .u32 first, .int .u32 0, .int .u32 0, .int .u32 0, .int .i64 win, .int .i64 0, .slice A2 n k2, .slice none 0 0], .agg #[.int .i64 1, .int .i64 port, .int .i64 0, .int .u32 first, .int .u32 0, .int .u32 0, .int .u32 0, .int .i64 win, .int .i64 0, .slice A n c, .slice none 0 0]] w' fun e w'' => e = .returned (.bool true) ∧ Below w'.heap.size w' w'') := Lib.hid fun w' hb => rsame_spec (Peer.waiting port first win ⟨A2, n, k2, l⟩) ⟨A, n, c, l⟩ Peer.nil w' ((Rd.of_own own2).below hb) (Rd.nil_ _) ((HRd.out.below hw2).below hb) (Rd.nil_ _)
  all_goals
    clear hr hb1 hb2
    simp only [Peer.waiting, Peer.nil]
    go_wp2_with (first | (refine wpList_stB 26 _ _ (by with_reducible rfl) rfl (by rfl) _ (by rfl) (by first | assumption | exact BlkV.new _ _ _) (by rfl) (peer_size (by rfl)) (by rfl) ?_; intro wN BN hO))
    have B11 := BN
    have h11 : w2.heap.size < wN.heap.size := by rw [hO.size]; simp
    have hb2 := hO.bel (Nat.le_refl _) ((Below.refl _ w2).alloc (Nat.le_refl _) (.cells #[.int .i64 0, .int .i64 0, .int .i64 0, .int .u32 0, .int .u32 0, .int .u32 0, .int .u32 0, .int .i64 0, .int .i64 0, .slice none 0 0, .slice none 0 0] 26))
    have hbw := bel_then hw2 hb2
    clear hO BN
    refine (HK.out wN hbw).mono ?_
    clear HK
    rintro e w3 ⟨hb3, ⟨hr, rfl⟩ | ⟨hr, A3, k3, rfl, own3⟩⟩
    all_goals
      have hrq := HRY.out.symm.trans hr
      subst hrq
      have hw3 := bel_then hbw hb3
    case' inl => have HSB : Hid (∀ w', Below w3.heap.size w3 w' → Calls Try.prog 11 #[.agg #[.int .i64 0, .int .i64 0, .int .i64 0, .int .u32 0, .int .u32 0, .int .u32 0, .int .u32 0, .int .i64 0, .int .i64 0, .slice none 0 0, .slice none 0 0], .agg #[.int .i64 0, .int .i64 0, .int .i64 0, .int .u32 0, .int .u32 0, .int .u32 0, .int .u32 0, .int .i64 0, .int .i64 0, .slice none 0 0, .slice none 0 0]] w' fun e w'' => e = .returned (.bool true) ∧ Below w'.heap.size w' w'') := Lib.hid fun w' _ => SZ.out w'
    case' inr => have HSB : Hid (∀ w', Below w3.heap.size w3 w' → Calls Try.prog 11 #[.agg #[.int .i64 2, .int .i64 port, .int .i64 to_, .int .u32 first, .int .u32 first, .int .u32 (Seq.step first 1), .int .u32 0, .int .i64 win, .int .i64 0, .slice A3 n k3, .slice none 0 0], .agg #[.int .i64 2, .int .i64 port, .int .i64 to_, .int .u32 first, .int .u32 first, .int .u32 (Seq.step first 1), .int .u32 0, .int .i64 win, .int .i64 0, .slice A n c, .slice none 0 0]] w' fun e w'' => e = .returned (.bool true) ∧ Below w'.heap.size w' w'') := Lib.hid fun w' hb => rsame_spec (Peer.asking port to_ first win ⟨A3, n, k3, l⟩) ⟨A, n, c, l⟩ Peer.nil w' ((Rd.of_own own3).below hb) (Rd.nil_ _) ((HRd.out.below hw3).below hb) (Rd.nil_ _)
    all_goals
      clear hr
      simp only [Peer.asking, Peer.nil]
      have B11b := (B11.below hb3).alloc (.cells #[.int .i64 0, .int .i64 0, .int .i64 0, .int .u32 0, .int .u32 0, .int .u32 0, .int .u32 0, .int .i64 0, .int .i64 0, .slice none 0 0, .slice none 0 0] 26)
      have hb23 := bel_then hb2 hb3
      have hs23 := hb3.size
      clear B11 hb2 hb3 hbw
      go_upto_region 7 with (first | (refine wpList_stB 26 _ _ (by with_reducible rfl) rfl (by rfl) _ (by rfl) (by first | assumption | exact BlkV.new _ _ _) (by rfl) (peer_size (by rfl)) (by rfl) ?_; intro wN BN hO))
      have B13 := BN
      have B11 := B11b.only hO (by omega)
      have h13 : w3.heap.size < wN.heap.size := by rw [hO.size]; simp
      have hb3 := hO.bel (Nat.le_refl _) ((Below.refl _ w3).alloc (Nat.le_refl _) (.cells #[.int .i64 0, .int .i64 0, .int .i64 0, .int .u32 0, .int .u32 0, .int .u32 0, .int .u32 0, .int .i64 0, .int .i64 0, .slice none 0 0, .slice none 0 0] 26))
      clear hO BN B11b
      obtain ⟨w4, hw4⟩ : ∃ w4, w4 = wN := ⟨_, rfl⟩
      subst hw4
      have B11b := B11.alloc (.cells #[.int .i64 0, .int .i64 0, .int .i64 0, .int .u32 0, .int .u32 0, .int .u32 0, .int .u32 0, .int .i64 0, .int .i64 0, .slice none 0 0, .slice none 0 0] 26)
      have B13b := B13.alloc (.cells #[.int .i64 0, .int .i64 0, .int .i64 0, .int .u32 0, .int .u32 0, .int .u32 0, .int .u32 0, .int .i64 0, .int .i64 0, .slice none 0 0, .slice none 0 0] 26)
      clear B11 B13
      go_upto_region 8 with (first | (refine wpList_stB 26 _ _ (by with_reducible rfl) rfl (by rfl) _ (by rfl) (by first | assumption | exact BlkV.new _ _ _) (by rfl) (peer_size (by rfl)) (by rfl) ?_; intro wN BN hO))
      obtain ⟨w5, hw5⟩ : ∃ w5, w5 = wN := ⟨_, rfl⟩
      subst hw5
      have B15b := BN.alloc (.cells #[.int .i64 0, .int .i64 0, .int .i64 0, .int .u32 0, .int .u32 0, .int .u32 0, .int .u32 0, .int .i64 0, .int .i64 0, .slice none 0 0, .slice none 0 0] 26)
      have B11c := (B11b.only hO (by omega)).alloc (.cells #[.int .i64 0, .int .i64 0, .int .i64 0, .int .u32 0, .int .u32 0, .int .u32 0, .int .u32 0, .int .i64 0, .int .i64 0, .slice none 0 0, .slice none 0 0] 26)
      have B13c := (B13b.only hO (by omega)).alloc (.cells #[.int .i64 0, .int .i64 0, .int .i64 0, .int .u32 0, .int .u32 0, .int .u32 0, .int .u32 0, .int .i64 0, .int .i64 0, .slice none 0 0, .slice none 0 0] 26)
      have hb35 := bel_then hb3 (hO.bel (Nat.le_refl _) ((Below.refl _ w4).alloc (Nat.le_refl _) (.cells #[.int .i64 0, .int .i64 0, .int .i64 0, .int .u32 0, .int .u32 0, .int .u32 0, .int .u32 0, .int .i64 0, .int .i64 0, .slice none 0 0, .slice none 0 0] 26)))
      have h15 : w4.heap.size < w5.heap.size := by rw [hO.size]; simp
      clear hO BN B11b B13b hb3
      go_upto_region 9 with (first | (refine wpList_stB 26 _ _ (by with_reducible rfl) rfl (by rfl) _ (by rfl) (by first | assumption | exact BlkV.new _ _ _) (by rfl) (peer_size (by rfl)) (by rfl) ?_; intro wN BN hO) | (refine (HS.out _).mono ?_; rintro e w' ⟨rfl, rfl⟩))
      obtain ⟨w6, hw6⟩ : ∃ w6, w6 = wN := ⟨_, rfl⟩
      subst hw6
      have B16 := BN
      have B11 := B11c.only hO (by omega)
      have B13 := B13c.only hO (by omega)
      have B15 := B15b.only hO (by omega)
      have hb36 := bel_then hb35 (hO.bel (Nat.le_refl _) ((Below.refl _ w5).alloc (Nat.le_refl _) (.cells #[.int .i64 0, .int .i64 0, .int .i64 0, .int .u32 0, .int .u32 0, .int .u32 0, .int .u32 0, .int .i64 0, .int .i64 0, .slice none 0 0, .slice none 0 0] 26)))
      have h16 : w5.heap.size < w6.heap.size := by rw [hO.size]; simp
      have hb06 := bel_then hw3 hb36
      clear hO BN B11c B13c B15b hb35
      go_wp2_with (first | (refine wpList_ldB 26 _ _ (by with_reducible rfl) rfl (by rfl) (by assumption) Try.underlying26 rfl (peer_size (by rfl)) ?_))
      refine (HX.out w6 hb06).mono ?_
      rintro e w7 ⟨rfl, hb7⟩
      have B11b := B11.below hb7
      have B13b := B13.below hb7
      have B15b := B15.below hb7
      have B16b := B16.below hb7
      have hb37 := bel_then hb36 hb7
      have hb07 := bel_then hw3 hb37
      have hs7 := hb7.size
      clear B11 B13 B15 B16 hb7 hb36 hb06 HX
      clear HS
      go_upto_region 12 with (first | (refine wpList_stB 26 _ _ (by with_reducible rfl) rfl (by rfl) _ (by rfl) (by first | assumption | exact BlkV.new _ _ _) (by rfl) (peer_size (by rfl)) (by rfl) ?_; intro wN BN hO))
      first
        | (have B15 := BN
           have B11 := B11b.only hO (by omega)
           have B13 := B13b.only hO (by omega)
           have B16 := B16b.only hO (by omega)
           have hb38 := hO.bel (by omega) hb37
           have hs8 := hO.size
           obtain ⟨w8, hw8⟩ : ∃ w8, w8 = wN := ⟨_, rfl⟩
           subst hw8
           clear hO BN)
        | (have B15 := B15b
           have B11 := B11b
           have B13 := B13b
           have B16 := B16b
           have hb38 := hb37
           have hs8 : w7.heap.size = w7.heap.size := rfl
           obtain ⟨w8, hw8⟩ : ∃ w8, w8 = w7 := ⟨_, rfl⟩
           subst hw8)
      have HS8 := Lib.hid hs8
      clear B11b B13b B15b B16b hb37 hs8
      go_wp2_with (first | (refine wpList_ldB 26 _ _ (by with_reducible rfl) rfl (by rfl) (by assumption) Try.underlying26 rfl (peer_size (by rfl)) ?_))
      refine (HY.out w8 (bel_then hw3 hb38)).mono ?_
      rintro e w9 ⟨rfl, hb9⟩
      have B11b := B11.below hb9
      have B13b := B13.below hb9
      have B15b := B15.below hb9
      have B16b := B16.below hb9
      have hb39 := bel_then hb38 hb9
      have hs9 := hb9.size
      have h89 : w5.heap.size < w9.heap.size := by have := HS8.out; omega
      clear B11 B13 B15 B16 hb9 hb38 HY hs9
      go_upto_region 14 with (first | (refine wpList_stB 26 _ _ (by with_reducible rfl) rfl (by rfl) _ (by rfl) (by first | assumption | exact BlkV.new _ _ _) (by rfl) (peer_size (by rfl)) (by rfl) ?_; intro wN BN hO))
      first
        | (have B16 := BN
           have B11 := B11b.only hO (by omega)
           have B13 := B13b.only hO (by omega)
           have B15 := B15b.only hO (by omega)
           have hb3x := hO.bel (by omega) hb39
           obtain ⟨wx, hwx⟩ : ∃ wx, wx = wN := ⟨_, rfl⟩
           subst hwx
           clear hO BN)
        | (have B15 := B15b
           have B11 := B11b
           have B13 := B13b
           have B16 := B16b
           have hb3x := hb39
           obtain ⟨wx, hwx⟩ : ∃ wx, wx = w9 := ⟨_, rfl⟩
           subst hwx)
      clear B11b B13b B15b B16b hb39
      go_wp2_with (first | (refine wpList_ldB 26 _ _ (by with_reducible rfl) rfl (by rfl) (by assumption) Try.underlying26 rfl (peer_size (by rfl)) ?_))
      refine (HSA.out wx (bel_then hb23 hb3x)).mono ?_
      rintro e wy ⟨rfl, hby⟩
      obtain ⟨r0, r1, r2, r3, r4, r5, r6, r7, r8, r9, r10⟩ := cells11 (B13.below hby)
      obtain ⟨q0, q1, q2, q3, q4, q5, q6, q7, q8, q9, q10⟩ := cells11 (B16.below hby)
      have hb3y := bel_then hb3x hby
      have hbwy := bel_then hw3 hb3y
      clear B11 B13 B15 B16 hby hb3x HSA
      go_wp2_with fail
      refine (HSB.out wy hb3y).mono ?_
      rintro e wz ⟨rfl, hbz⟩
      have hbF := bel_then hbwy hbz
      clear r0 r1 r2 r3 r4 r5 r6 r7 r8 r9 r10 q0 q1 q2 q3 q4 q5 q6 q7 q8 q9 q10 HSB
      go_wp2_with fail
      go_ret
      exact ⟨ret_bool (by simp), hbF⟩
end Go.Proofs.Ytihhcalgjkkalaa
