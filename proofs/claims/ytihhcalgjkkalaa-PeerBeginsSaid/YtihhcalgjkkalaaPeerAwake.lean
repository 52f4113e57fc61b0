/- The walk of the peer laws' awake. -/
import Derived.Test.YtihhcalgjkkalaaPeerHearW
import Derived.Test.YtihhcalgjkkalaaBlkOwn
namespace Go.Proofs.Ytihhcalgjkkalaa
open Go.RowKit
set_option linter.unusedVariables false
set_option linter.unusedSimpArgs false
theorem peer_ok_asking (A B : Option Addr) (c k : Nat) : Peer.right ⟨2, 5, 80, 100, 100, Seq.step 100 1, 0, 10, 0, ⟨A, 1, c, [7]⟩, ⟨B, 0, k, []⟩⟩ = true := by
  have h1 : Seq.dist 100 100 = 0 := by unfold Seq.dist wrap64 wrap32; omega
  have h2 : Seq.dist 100 (Seq.step 100 1) = 1 := by unfold Seq.dist Seq.step wrap64 wrap32; omega
  unfold Peer.right Peer.inOrder Peer.within
  simp [h1, h2]
theorem peer_ok_waiting (A B : Option Addr) (c k : Nat) : Peer.right ⟨1, 80, 0, 300, 0, 0, 0, 10, 0, ⟨A, 0, c, []⟩, ⟨B, 0, k, []⟩⟩ = true := by rfl
theorem hun_u32 : (0 : Int) ≤ 100 ∧ (100 : Int) ≤ 4294967295 := by omega
theorem isB7 : isB [7] := by
  intro x hx
  simp only [List.mem_cons, List.not_mem_nil, or_false] at hx
  omega
theorem isB_nil : isB [] := fun x hx => by cases hx
set_option maxHeartbeats 8000000 in
theorem peer_awake (w : World) : Calls Try.prog 6 #[] w fun e w' => e = .returned (.bool true) ∧ Below w.heap.size w w' := by
  obtain ⟨w0, hw0⟩ : ∃ w0, w0 = w.alloc (.cells #[.int .u8 7] 5) := ⟨_, rfl⟩
  have hb0 : Below w.heap.size w w0 := by rw [hw0]; exact (Below.refl _ _).alloc (Nat.le_refl _) _
  have R0 : Rd w0 1 (some ⟨w.heap.size, 0, none⟩) 1 (bs [7]) := by rw [hw0]; exact rd_one w 5 (.int .u8 7)
  have HA := Lib.hid (pask_spec 5 80 100 10 ⟨some ⟨w.heap.size, 0, none⟩, 1, 1, [7]⟩ w0 (by omega) (by omega) ⟨R0, isB7, by show (1 : Nat) ≤ _; omega⟩ (by show (1 : Nat) ≤ _; omega))
  have HW := Lib.hid (fun w => pwait_spec 80 300 10 Peer.nil w (by omega) (by omega) (Peer.nil_ok w) (by show (0 : Nat) ≤ _; omega))
  go_enter Try.func6, Try.ntmps6
  go_wp2_with fail
  rw [← hw0]
  clear hw0
  refine HA.out.mono ?_
  rintro e w1 ⟨hb1, ⟨hr, rfl⟩ | ⟨hr, A2, k2, rfl, own2⟩⟩
  · exact absurd ((peer_ok_asking _ _ _ _).symm.trans hr) (by simp)
  have own2 : w1.ownsRow w0.heap.size 5 1 (.slice A2 1 k2) 1 (bs [7]) := own2
  simp only [Peer.asking, Peer.nil]
  have O2 := Lib.hid own2
  clear hr HA own2 R0
  have hb01 := bel_then hb0 hb1
  have hw01 := hb01.size
  go_wp2_with (first | (refine wpList_stB 26 _ _ (by with_reducible rfl) rfl (by rfl) _ (by rfl) (by first | assumption | exact BlkV.new _ _ _) (by rfl) (peer_size (by rfl)) (by rfl) ?_; intro wN BN hO))
  obtain ⟨wa, hwa⟩ : ∃ wa, wa = wN := ⟨_, rfl⟩
  subst hwa
  have O2a := Lib.hid (own_st (own_below O2.out ((Below.refl _ _).alloc (Nat.le_refl _) _)) (BlkV.new w1 26 _) hO (by decide))
  have hb0a := hO.bel (by have := hb01.size; omega) (bel_a hb01 _)
  have hg1 : w1.heap.size < wa.heap.size := by rw [hO.size]; simp
  have B1 := BN
  clear O2 hO BN hb1 hb01
  refine (HW.out wa).mono ?_
  rintro e w2 ⟨hb2, ⟨hr, rfl⟩ | ⟨hr, A3, k3, rfl, own3⟩⟩
  · exact absurd ((peer_ok_waiting _ _ _ _).symm.trans hr) (by simp)
  have own3 : w2.ownsRow wa.heap.size 5 1 (.slice A3 0 k3) 0 (bs []) := own3
  simp only [Peer.waiting, Peer.nil]
  have O3 := Lib.hid own3
  have O2b := Lib.hid (own_below O2a.out hb2)
  have B1b := B1.below hb2
  have hb0b := bel_then hb0a hb2
  clear hr own3 O2a B1 hb2 HW hb0a
  have hg1b := B1b.lt
  have HS : Hid (∀ w', w'.ownsRow w0.heap.size 5 1 (.slice A2 1 k2) 1 (bs [7]) → Calls Try.prog 18 #[.agg #[.int .i64 2, .int .i64 5, .int .i64 80, .int .u32 100, .int .u32 100, .int .u32 (Seq.step 100 1), .int .u32 0, .int .i64 10, .int .i64 0, .slice A2 1 k2, .slice none 0 0], .int .i64 9] w' (SayC ⟨2, 5, 80, 100, 100, Seq.step 100 1, 0, 10, 0, ⟨A2, 1, k2, [7]⟩, ⟨none, 0, 0, []⟩⟩ 2 100 0 w')) := Lib.hid fun w' ho =>
    pSay_spec ⟨2, 5, 80, 100, 100, Seq.step 100 1, 0, 10, 0, ⟨A2, 1, k2, [7]⟩, ⟨none, 0, 0, []⟩⟩ 9 w' ⟨hun_u32, hun_u32, by have := Seq.step_bd 100 1; exact ⟨this.1, by show Seq.step 100 1 ≤ _; omega⟩, zero_u32, ⟨Rd.of_own ho, isB7, by show (1 : Nat) ≤ _; omega⟩, Peer.nil_ok w'⟩ (by show (1 : Nat) ≤ _; omega) (by show (0 : Nat) ≤ _; omega) (.inl rfl) (peer_ok_asking _ _ _ _) (by omega)
  go_wp2_with (first | (refine wpList_stB 26 _ _ (by with_reducible rfl) rfl (by rfl) _ (by rfl) (by first | assumption | exact BlkV.new _ _ _) (by rfl) (peer_size (by rfl)) (by rfl) ?_; intro wN BN hO) | (refine wpList_ldB 26 _ _ (by with_reducible rfl) rfl (by rfl) ((B1b.alloc _).only hO (by simp; omega)) Try.underlying26 rfl (peer_size (by rfl)) ?_))
  have B1c := (B1b.alloc (.cells #[.int .i64 0, .int .i64 0, .int .i64 0, .int .u32 0, .int .u32 0, .int .u32 0, .int .u32 0, .int .i64 0, .int .i64 0, .slice none 0 0, .slice none 0 0] 26)).only hO (by omega)
  have B3c := BN
  have O2c := own_st (own_below O2b.out ((Below.refl _ _).alloc (Nat.le_refl _) _)) (BlkV.new w2 26 [.int .i64 0, .int .i64 0, .int .i64 0, .int .u32 0, .int .u32 0, .int .u32 0, .int .u32 0, .int .i64 0, .int .i64 0, .slice none 0 0, .slice none 0 0]) hO (by decide)
  have O3c := own_st (own_below O3.out ((Below.refl _ _).alloc (Nat.le_refl _) _)) (BlkV.new w2 26 [.int .i64 0, .int .i64 0, .int .i64 0, .int .u32 0, .int .u32 0, .int .u32 0, .int .u32 0, .int .i64 0, .int .i64 0, .slice none 0 0, .slice none 0 0]) hO (by decide)
  have hb0c := hO.bel (by have := hb0b.size; omega) (bel_a hb0b (.cells #[.int .i64 0, .int .i64 0, .int .i64 0, .int .u32 0, .int .u32 0, .int .u32 0, .int .u32 0, .int .i64 0, .int .i64 0, .slice none 0 0, .slice none 0 0] 26))
  have hs2 : w2.heap.size < wN.heap.size := by rw [hO.size]; simp
  clear O2b O3 B1b hb0b hO BN
  refine (HS.out wN O2c).mono ?_
  rintro e w3 ⟨hb3, A4, c4, B4, k4, D4, m4, rfl, oA, oB, oD⟩
  clear HS O2c
  have B1d := (B1c.below hb3).alloc (.cells #[.int .i64 0, .int .i64 0, .int .u32 0, .int .u32 0, .int .i64 0, .int .i64 0, .int .i64 0, .slice none 0 0, .slice none 0 0] 37)
  have B3d := (B3c.below hb3).alloc (.cells #[.int .i64 0, .int .i64 0, .int .u32 0, .int .u32 0, .int .i64 0, .int .i64 0, .int .i64 0, .slice none 0 0, .slice none 0 0] 37)
  have hs3 := hb3.size
  have oA : w3.ownsRow wN.heap.size 5 1 (.slice A4 1 c4) 1 (bs [7]) := oA
  have oB : w3.ownsRow wN.heap.size 5 1 (.slice B4 0 k4) 0 (bs []) := oB
  have O3d := Lib.hid (own_below O3c hb3)
  have OA := Lib.hid oA
  have OB := Lib.hid oB
  have hb0d := bel_then hb0c hb3
  clear oA oB oD O3c B1c B3c hb0c hb3
  simp only
  go_upto_region 4 with (first | (refine wpList_stB 26 _ _ (by with_reducible rfl) rfl (by rfl) _ (by rfl) (by first | assumption | exact BlkV.new _ _ _) (by rfl) (peer_size (by rfl)) (by rfl) ?_; intro wN BN hO) | (refine wpList_stB 37 _ _ (by with_reducible rfl) rfl (by rfl) _ (by rfl) ((BlkV.new w3 37 [.int .i64 0, .int .i64 0, .int .u32 0, .int .u32 0, .int .i64 0, .int .i64 0, .int .i64 0, .slice none 0 0, .slice none 0 0]).only hO (by omega)) (by rfl) (tcp_size (by rfl)) (by rfl) ?_; intro wM BM hM))
  have BS := BM
  have B1e := BN.only hM (by omega)
  have B3e := (B3d.only hO (by omega)).only hM (by omega)
  have O3e := own_st (own_st (own_below O3d.out ((Below.refl _ _).alloc (Nat.le_refl _) _)) B1d hO (by decide)) ((BlkV.new w3 37 [.int .i64 0, .int .i64 0, .int .u32 0, .int .u32 0, .int .i64 0, .int .i64 0, .int .i64 0, .slice none 0 0, .slice none 0 0]).only hO (by omega)) hM (by decide)
  have OAe := Lib.hid (own_st (own_st (own_below OA.out ((Below.refl _ _).alloc (Nat.le_refl _) _)) B1d hO (by decide)) ((BlkV.new w3 37 [.int .i64 0, .int .i64 0, .int .u32 0, .int .u32 0, .int .i64 0, .int .i64 0, .int .i64 0, .slice none 0 0, .slice none 0 0]).only hO (by omega)) hM (by decide))
  have OBe := Lib.hid (own_st (own_st (own_below OB.out ((Below.refl _ _).alloc (Nat.le_refl _) _)) B1d hO (by decide)) ((BlkV.new w3 37 [.int .i64 0, .int .i64 0, .int .u32 0, .int .u32 0, .int .i64 0, .int .i64 0, .int .i64 0, .slice none 0 0, .slice none 0 0]).only hO (by omega)) hM (by decide))
  have hb0e := hM.bel (by have := hb0d.size; omega) (hO.bel hw01 (bel_a hb0d (.cells #[.int .i64 0, .int .i64 0, .int .u32 0, .int .u32 0, .int .i64 0, .int .i64 0, .int .i64 0, .slice none 0 0, .slice none 0 0] 37)))
  have hsM : wM.heap.size = w3.heap.size + 1 := by rw [hM.size, hO.size]; simp
  clear O3d OA OB B1d B3d BN BM hO hM hb0d
  have hs1 : w1.heap.size < w2.heap.size := hg1b
  obtain ⟨c0, c1, c2, c3, c4', c5, c6, c7, c8, c9, c10⟩ := cells11 B3e
  obtain ⟨s0, s1, s2, s3, s4, s5, s6, s7, s8⟩ := cells9 BS
  go_wp2_with (first | (refine wpList_ldB 26 _ _ (by with_reducible rfl) rfl (by rfl) (by assumption) Try.underlying26 rfl (peer_size (by rfl)) ?_) | (refine wpList_ldB 37 _ _ (by with_reducible rfl) rfl (by rfl) (by assumption) Try.underlying37 rfl (tcp_size (by rfl)) ?_))
  clear c0 c1 c2 c3 c4' c5 c6 c7 c8 c9 c10 s0 s1 s2 s3 s4 s5 s6 s7 s8
  refine (phear_waits ⟨1, 80, 0, 300, 0, 0, 0, 10, 0, ⟨A3, 0, k3, []⟩, ⟨none, 0, 0, []⟩⟩ ⟨5, 80, 100, 0, 2, 10, 0, none, 0, 0, D4, 0, m4, [], []⟩ wM ⟨(by show (0 : Int) ≤ 300 ∧ (300 : Int) ≤ 4294967295; omega), zero_u32, zero_u32, zero_u32, ⟨Rd.of_own O3e, isB_nil, by show (0 : Nat) ≤ _; omega⟩, Peer.nil_ok wM⟩ (by show (0 : Nat) ≤ _; omega) (by show (0 : Nat) ≤ _; omega) rfl rfl (Lib.hid (by show Go.bits .and .i64 2 18 = 2; decide +kernel)) (peer_ok_waiting _ _ _ _) (by show (Go.bits .and .i64 2 4 != 0) = false; decide +kernel) rfl rfl).mono ?_
  rintro e w4 ⟨hb4, A5, c5, B5, k5, D5, m5, rfl, oA, oB, oD⟩
  clear oA oB oD O3e
  simp only [Peer.heard]
  have B1f := (B1e.below hb4).alloc (.cells #[.int .i64 0, .int .i64 0, .int .u32 0, .int .u32 0, .int .i64 0, .int .i64 0, .int .i64 0, .slice none 0 0, .slice none 0 0] 37)
  have B3f := (B3e.below hb4).alloc (.cells #[.int .i64 0, .int .i64 0, .int .u32 0, .int .u32 0, .int .i64 0, .int .i64 0, .int .i64 0, .slice none 0 0, .slice none 0 0] 37)
  have OAf := own_below OAe.out (bel_a hb4 (.cells #[.int .i64 0, .int .i64 0, .int .u32 0, .int .u32 0, .int .i64 0, .int .i64 0, .int .i64 0, .slice none 0 0, .slice none 0 0] 37))
  have OBf := own_below OBe.out (bel_a hb4 (.cells #[.int .i64 0, .int .i64 0, .int .u32 0, .int .u32 0, .int .i64 0, .int .i64 0, .int .i64 0, .slice none 0 0, .slice none 0 0] 37))
  have hs4 := hb4.size
  have hb0f := bel_then hb0e hb4
  clear B1e B3e OAe OBe hb0e hb4 BS
  go_upto_region 5 with (first | (refine wpList_stB 26 _ _ (by with_reducible rfl) rfl (by rfl) _ (by rfl) (by first | assumption | exact BlkV.new _ _ _) (by rfl) (peer_size (by rfl)) (by rfl) ?_; intro wN BN hO) | (refine wpList_stB 37 _ _ (by with_reducible rfl) rfl (by rfl) _ (by rfl) ((BlkV.new w4 37 [.int .i64 0, .int .i64 0, .int .u32 0, .int .u32 0, .int .i64 0, .int .i64 0, .int .i64 0, .slice none 0 0, .slice none 0 0]).only hO (by omega)) (by rfl) (tcp_size (by rfl)) (by rfl) ?_; intro wP BM hP))
  have BT := BM
  have B1g := (B1f.only hO (by omega)).only hP (by omega)
  have B3g := BN.only hP (by omega)
  have OAg := own_st (own_st OAf B3f hO (by decide)) ((BlkV.new w4 37 [.int .i64 0, .int .i64 0, .int .u32 0, .int .u32 0, .int .i64 0, .int .i64 0, .int .i64 0, .slice none 0 0, .slice none 0 0]).only hO (by omega)) hP (by decide)
  have OBg := own_st (own_st OBf B3f hO (by decide)) ((BlkV.new w4 37 [.int .i64 0, .int .i64 0, .int .u32 0, .int .u32 0, .int .i64 0, .int .i64 0, .int .i64 0, .slice none 0 0, .slice none 0 0]).only hO (by omega)) hP (by decide)
  have hb0g := hP.bel (by have := hb0f.size; omega) (hO.bel (by omega) (bel_a hb0f (.cells #[.int .i64 0, .int .i64 0, .int .u32 0, .int .u32 0, .int .i64 0, .int .i64 0, .int .i64 0, .slice none 0 0, .slice none 0 0] 37)))
  have hsP : wP.heap.size = w4.heap.size + 1 := by rw [hP.size, hO.size]; simp
  clear OAf OBf B1f B3f BN BM hO hP hb0f
  go_wp2_with (first | (refine wpList_ldB 26 _ _ (by with_reducible rfl) rfl (by rfl) (by assumption) Try.underlying26 rfl (peer_size (by rfl)) ?_) | (refine wpList_ldB 37 _ _ (by with_reducible rfl) rfl (by rfl) (by assumption) Try.underlying37 rfl (tcp_size (by rfl)) ?_))
  refine (phear_asks ⟨2, 5, 80, 100, 100, Seq.step 100 1, 0, 10, 0, ⟨A4, 1, c4, [7]⟩, ⟨B4, 0, k4, []⟩⟩ ⟨80, 5, 300, Seq.step 100 1, 18, 10, 0, none, 0, 0, D5, 0, m5, [], []⟩ wP ⟨hun_u32, hun_u32, (by have := Seq.step_bd 100 1; exact ⟨this.1, by show Seq.step 100 1 ≤ _; omega⟩), zero_u32, ⟨Rd.of_own OAg, isB7, by show (1 : Nat) ≤ _; omega⟩, ⟨Rd.of_own OBg, isB_nil, by show (0 : Nat) ≤ _; omega⟩⟩ (by show (1 : Nat) ≤ _; omega) (by show (0 : Nat) ≤ _; omega) rfl rfl rfl rfl (Lib.hid (by show Go.bits .and .i64 18 18 = 18; decide +kernel)) (Lib.hid rfl) (peer_ok_asking _ _ _ _) (by show (Go.bits .and .i64 18 4 != 0) = false; decide +kernel) rfl rfl).mono ?_
  rintro e w5 ⟨hb5, A6, c6, B6, k6, D6, m6, rfl, oA, oB, oD⟩
  clear oA oB oD OAg OBg
  simp only [Peer.speaks]
  have B1h := (B1g.below hb5).alloc (.cells #[.int .i64 0, .int .i64 0, .int .u32 0, .int .u32 0, .int .i64 0, .int .i64 0, .int .i64 0, .slice none 0 0, .slice none 0 0] 37)
  have B3h := (B3g.below hb5).alloc (.cells #[.int .i64 0, .int .i64 0, .int .u32 0, .int .u32 0, .int .i64 0, .int .i64 0, .int .i64 0, .slice none 0 0, .slice none 0 0] 37)
  have BTh := (BT.below hb5).alloc (.cells #[.int .i64 0, .int .i64 0, .int .u32 0, .int .u32 0, .int .i64 0, .int .i64 0, .int .i64 0, .slice none 0 0, .slice none 0 0] 37)
  have hs5 := hb5.size
  have hb0h := bel_then hb0g hb5
  clear B1g B3g hb0g hb5 BT
  go_upto_region 6 with (first | (refine wpList_stB 26 _ _ (by with_reducible rfl) rfl (by rfl) _ (by rfl) (by first | assumption | exact BlkV.new _ _ _) (by rfl) (peer_size (by rfl)) (by rfl) ?_; intro wN BN hO) | (refine wpList_stB 37 _ _ (by with_reducible rfl) rfl (by rfl) _ (by rfl) ((BlkV.new w5 37 [.int .i64 0, .int .i64 0, .int .u32 0, .int .u32 0, .int .i64 0, .int .i64 0, .int .i64 0, .slice none 0 0, .slice none 0 0]).only hO (by omega)) (by rfl) (tcp_size (by rfl)) (by rfl) ?_; intro wQ BM hQ))
  have e1 := cellF (BN.only hQ (by omega)) 0 rfl
  have e3 := cellF ((B3h.only hO (by omega)).only hQ (by omega)) 0 rfl
  have e7 := cellF ((BTh.only hO (by omega)).only hQ (by omega)) 3 rfl
  have hb0i := hQ.bel (by have := hb0h.size; omega) (hO.bel hw01 (bel_a hb0h (.cells #[.int .i64 0, .int .i64 0, .int .u32 0, .int .u32 0, .int .i64 0, .int .i64 0, .int .i64 0, .slice none 0 0, .slice none 0 0] 37)))
  have hst : (Seq.step 100 1 == 101) = true := by decide +kernel
  clear B1h B3h BTh BN BM hO hQ hb0h
  go_wp2_with fail
  go_ret
  exact ⟨rfl, hb0i⟩
end Go.Proofs.Ytihhcalgjkkalaa
