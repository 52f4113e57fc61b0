/- The walks of peer.say whatever the state, and of peer.Say. -/
import Derived.Test.YtihhcalgjkkalaaPbSay
namespace Go.Proofs.Ytihhcalgjkkalaa
open Go.RowKit
set_option linter.unusedVariables false
set_option linter.unusedSimpArgs false
set_option maxHeartbeats 4000000 in
theorem psay1_spec (p : Peer.P) (mss : Int) (w : World) (hst : ¬ p.st = 2 ∧ ¬ p.st = 3 ∧ ¬ p.st = 4) : Calls Try.prog 31 #[.agg #[.int .i64 p.st, .int .i64 p.port, .int .i64 p.to, .int .u32 p.fi, .int .u32 p.un, .int .u32 p.ne, .int .u32 p.wa, .int .i64 p.wi, .int .i64 p.ot, .slice p.d.A p.d.n p.d.c, .slice p.g.A p.g.n p.g.c], .int .i64 mss] w (SayG p mss w) := by
  have hq2 : (p.st == 2) = false := by simpa using hst.1
  have hq3 : (p.st == 3) = false := by simpa using hst.2.1
  have hq4 : (p.st == 4) = false := by simpa using hst.2.2
  have HST := Lib.hid hst
  clear hst
  obtain ⟨W, hW⟩ : ∃ W, W = ((w.alloc (.cells #[.int .i64 p.st, .int .i64 p.port, .int .i64 p.to, .int .u32 p.fi, .int .u32 p.un, .int .u32 p.ne, .int .u32 p.wa, .int .i64 p.wi, .int .i64 p.ot, .slice p.d.A p.d.n p.d.c, .slice p.g.A p.g.n p.g.c] 26)).alloc (.cells #[.int .i64 0, .int .i64 0, .int .i64 0, .int .u32 0, .int .u32 0, .int .u32 0, .int .u32 0, .int .i64 0, .int .i64 0, .slice none 0 0, .slice none 0 0] 26)).alloc (.cells #[.int .i64 0, .int .i64 0, .int .u32 0, .int .u32 0, .int .i64 0, .int .i64 0, .int .i64 0, .slice none 0 0, .slice none 0 0] 37) := ⟨_, rfl⟩
  have hbW : Below w.heap.size w W := (by rw [hW]; exact (((Below.refl _ _).alloc (Nat.le_refl _) _).alloc (by simp) _).alloc (by simp; omega) _)
  have hWs : W.heap.size = w.heap.size + 3 := (by rw [hW]; simp)
  have B0 : BlkV W w.heap.size 26 [.int .i64 p.st, .int .i64 p.port, .int .i64 p.to, .int .u32 p.fi, .int .u32 p.un, .int .u32 p.ne, .int .u32 p.wa, .int .i64 p.wi, .int .i64 p.ot, .slice p.d.A p.d.n p.d.c, .slice p.g.A p.g.n p.g.c] := (by rw [hW]; exact ((BlkV.new w _ _).alloc _).alloc _)
  have B1 : BlkV W (w.heap.size + 1) 26 [.int .i64 0, .int .i64 0, .int .i64 0, .int .u32 0, .int .u32 0, .int .u32 0, .int .u32 0, .int .i64 0, .int .i64 0, .slice none 0 0, .slice none 0 0] := (by rw [hW]; exact (BlkV.new_at (w.alloc (.cells #[.int .i64 p.st, .int .i64 p.port, .int .i64 p.to, .int .u32 p.fi, .int .u32 p.un, .int .u32 p.ne, .int .u32 p.wa, .int .i64 p.wi, .int .i64 p.ot, .slice p.d.A p.d.n p.d.c, .slice p.g.A p.g.n p.g.c] 26)) _ _ (by simp)).alloc _)
  have B2 : BlkV W (w.heap.size + 1 + 1) 37 [.int .i64 0, .int .i64 0, .int .u32 0, .int .u32 0, .int .i64 0, .int .i64 0, .int .i64 0, .slice none 0 0, .slice none 0 0] := (by rw [hW]; exact (BlkV.new_at ((w.alloc (.cells #[.int .i64 p.st, .int .i64 p.port, .int .i64 p.to, .int .u32 p.fi, .int .u32 p.un, .int .u32 p.ne, .int .u32 p.wa, .int .i64 p.wi, .int .i64 p.ot, .slice p.d.A p.d.n p.d.c, .slice p.g.A p.g.n p.g.c] 26)).alloc (.cells #[.int .i64 0, .int .i64 0, .int .i64 0, .int .u32 0, .int .u32 0, .int .u32 0, .int .u32 0, .int .i64 0, .int .i64 0, .slice none 0 0, .slice none 0 0] 26)) _ _ (by simp)))
  obtain ⟨c0, c1, c2, c3, c4, c5, c6, c7, c8, c9, c10⟩ := cells11 B0
  go_enter Try.func31, Try.ntmps31
  go_upto_region 1 with (fail)
  rw [← hW]
  clear hW
  go_wp2_with (first | (refine wpList_ldB 26 _ _ (by with_reducible rfl) rfl (by rfl) (by assumption) Try.underlying26 rfl (peer_size (by rfl)) ?_) | (refine wpList_stB 26 _ _ (by with_reducible rfl) rfl (by rfl) _ (by rfl) (by assumption) (by rfl) (peer_size (by rfl)) (by rfl) ?_; intro wN BN hO) | (refine wpList_stB 37 _ _ (by with_reducible rfl) rfl (by rfl) _ (by rfl) (B2.only hO (by omega)) (by rfl) (tcp_size (by rfl)) (by rfl) ?_; intro wM BM hM))
  have BN' := BN.only hM (by omega)
  obtain ⟨r0, r1, r2, r3, r4, r5, r6, r7, r8, r9, r10⟩ := cells11 BN'
  obtain ⟨t0, t1, t2, t3, t4, t5, t6, t7, t8⟩ := cells9 BM
  clear c0 c1 c2 c3 c4 c5 c6 c7 c8 c9 c10 B0 B1 B2 BN BM BN'
  exact bodyPost_ret (v := .tuple #[.agg #[.int .i64 p.st, .int .i64 p.port, .int .i64 p.to, .int .u32 p.fi, .int .u32 p.un, .int .u32 p.ne, .int .u32 p.wa, .int .i64 p.wi, .int .i64 p.ot, .slice p.d.A p.d.n p.d.c, .slice p.g.A p.g.n p.g.c], .agg #[.int .i64 0, .int .i64 0, .int .u32 0, .int .u32 0, .int .i64 0, .int .i64 0, .int .i64 0, .slice none 0 0, .slice none 0 0], .bool false]) (by simp [results, Try.results31, go_sem, r0, r1, r2, r3, r4, r5, r6, r7, r8, r9, r10, t0, t1, t2, t3, t4, t5, t6, t7, t8]) rfl (sayG_none (hM.bel (by omega) (hO.bel (by omega) hbW)) (by
    obtain ⟨h2, h3, h4⟩ := HST.out
    unfold Pb.sayC
    rw [if_neg (show ¬ p.con.st = 2 from h2), if_neg (show ¬ p.con.st = 3 from h3), if_neg (show ¬ p.con.st = 4 from h4)]))
theorem psayG_spec (p : Peer.P) (mss : Int) (w : World) (hm : 1 ≤ mss ∧ mss ≤ 65536) (hr : Rd w 1 p.d.A p.d.n (bs p.d.l)) (hB : isB p.d.l) (hn : p.d.n ≤ 65536) (hc : p.d.n ≤ p.d.c) : Calls Try.prog 31 #[.agg #[.int .i64 p.st, .int .i64 p.port, .int .i64 p.to, .int .u32 p.fi, .int .u32 p.un, .int .u32 p.ne, .int .u32 p.wa, .int .i64 p.wi, .int .i64 p.ot, .slice p.d.A p.d.n p.d.c, .slice p.g.A p.g.n p.g.c], .int .i64 mss] w (SayG p mss w) := by
  by_cases h2 : p.st = 2
  · exact (psay2_spec p mss w h2).mono fun e w' h => sayG_tell h (by
      have e2 : p.con.st = 2 := h2
      unfold Pb.sayC
      rw [if_pos e2]
      rfl)
  by_cases h3 : p.st = 3
  · exact (psay3_spec p mss w h3).mono fun e w' h => sayG_tell h (by
      have e3 : p.con.st = 3 := h3
      unfold Pb.sayC
      rw [if_neg (by rw [e3]; decide), if_pos e3]
      rfl)
  by_cases h4 : p.st = 4
  · exact psay4_spec p mss w h4 hm hr hB hn hc
  · exact psay1_spec p mss w ⟨h2, h3, h4⟩
theorem Peer.con_with (p : Peer.P) (A : Option Addr) (c : Nat) (B : Option Addr) (k : Nat) : (p.with_ A c B k).con = p.con := rfl
theorem ptR_say {p : Peer.P} {mss : Int} {base : Nat} {w w' : World} {A B : Option Addr} {c k : Nat} {ne : Int} {t : Tcp.T} (hb : Below base w w') (oA : OwnS w' base A p.d.n c p.d.l) (oB : OwnS w' base B p.g.n k p.g.l) (oT : OwnT w' base t) (h1 : (Pb.sayC p.con mss).1 = { p.con with ne := ne }) (h2 : t.con = (Pb.sayC p.con mss).2.getD Pb.zero) :
    PtR base (Pb.sayC p.con mss) w (.returned (.tuple #[.agg #[.int .i64 p.st, .int .i64 p.port, .int .i64 p.to, .int .u32 p.fi, .int .u32 p.un, .int .u32 ne, .int .u32 p.wa, .int .i64 p.wi, .int .i64 p.ot, .slice A p.d.n c, .slice B p.g.n k], .agg #[.int .i64 t.sp, .int .i64 t.dp, .int .u32 t.sq, .int .u32 t.ak, .int .i64 t.fl, .int .i64 t.wi, .int .i64 t.ur, .slice t.Ao t.no t.co, .slice t.Ab t.nb t.cb], .bool (Pb.sayC p.con mss).2.isSome])) w' :=
  ⟨hb, ⟨p.st, p.port, p.to, p.fi, p.un, ne, p.wa, p.wi, p.ot, ⟨A, p.d.n, c, p.d.l⟩, ⟨B, p.g.n, k, p.g.l⟩⟩, t, rfl, ⟨oA, oB⟩, oT, by rw [h1]; rfl, h2⟩
set_option maxHeartbeats 4000000 in
theorem pSayG_spec (p : Peer.P) (mss : Int) (w : World) (base : Nat) (hp : OwnP w base p) (hr : Pb.rightC p.con = true) (hm : 1 ≤ mss ∧ mss ≤ 65536) :
    Calls Try.prog 18 #[.agg #[.int .i64 p.st, .int .i64 p.port, .int .i64 p.to, .int .u32 p.fi, .int .u32 p.un, .int .u32 p.ne, .int .u32 p.wa, .int .i64 p.wi, .int .i64 p.ot, .slice p.d.A p.d.n p.d.c, .slice p.g.A p.g.n p.g.c], .int .i64 mss] w (PtR w.heap.size (Pb.sayC p.con mss) w) := by
  obtain ⟨W, hW⟩ : ∃ W, W = ((w.alloc (.cells #[.int .i64 p.st, .int .i64 p.port, .int .i64 p.to, .int .u32 p.fi, .int .u32 p.un, .int .u32 p.ne, .int .u32 p.wa, .int .i64 p.wi, .int .i64 p.ot, .slice p.d.A p.d.n p.d.c, .slice p.g.A p.g.n p.g.c] 26)).alloc (.cells #[.int .i64 0, .int .i64 0, .int .i64 0, .int .u32 0, .int .u32 0, .int .u32 0, .int .u32 0, .int .i64 0, .int .i64 0, .slice none 0 0, .slice none 0 0] 26)).alloc (.cells #[.int .i64 0, .int .i64 0, .int .u32 0, .int .u32 0, .int .i64 0, .int .i64 0, .int .i64 0, .slice none 0 0, .slice none 0 0] 37) := ⟨_, rfl⟩
  have hbW : Below w.heap.size w W := (by rw [hW]; exact (((Below.refl _ _).alloc (Nat.le_refl _) _).alloc (by simp) _).alloc (by simp; omega) _)
  have hWs : W.heap.size = w.heap.size + 3 := (by rw [hW]; simp)
  have B0 : BlkV W w.heap.size 26 [.int .i64 p.st, .int .i64 p.port, .int .i64 p.to, .int .u32 p.fi, .int .u32 p.un, .int .u32 p.ne, .int .u32 p.wa, .int .i64 p.wi, .int .i64 p.ot, .slice p.d.A p.d.n p.d.c, .slice p.g.A p.g.n p.g.c] := (by rw [hW]; exact ((BlkV.new w _ _).alloc _).alloc _)
  have B1 : BlkV W (w.heap.size + 1) 26 [.int .i64 0, .int .i64 0, .int .i64 0, .int .u32 0, .int .u32 0, .int .u32 0, .int .u32 0, .int .i64 0, .int .i64 0, .slice none 0 0, .slice none 0 0] := (by rw [hW]; exact (BlkV.new_at (w.alloc (.cells #[.int .i64 p.st, .int .i64 p.port, .int .i64 p.to, .int .u32 p.fi, .int .u32 p.un, .int .u32 p.ne, .int .u32 p.wa, .int .i64 p.wi, .int .i64 p.ot, .slice p.d.A p.d.n p.d.c, .slice p.g.A p.g.n p.g.c] 26)) _ _ (by simp)).alloc _)
  have B2 : BlkV W (w.heap.size + 1 + 1) 37 [.int .i64 0, .int .i64 0, .int .u32 0, .int .u32 0, .int .i64 0, .int .i64 0, .int .i64 0, .slice none 0 0, .slice none 0 0] := (by rw [hW]; exact (BlkV.new_at ((w.alloc (.cells #[.int .i64 p.st, .int .i64 p.port, .int .i64 p.to, .int .u32 p.fi, .int .u32 p.un, .int .u32 p.ne, .int .u32 p.wa, .int .i64 p.wi, .int .i64 p.ot, .slice p.d.A p.d.n p.d.c, .slice p.g.A p.g.n p.g.c] 26)).alloc (.cells #[.int .i64 0, .int .i64 0, .int .i64 0, .int .u32 0, .int .u32 0, .int .u32 0, .int .u32 0, .int .i64 0, .int .i64 0, .slice none 0 0, .slice none 0 0] 26)) _ _ (by simp)))
  have hdn : p.d.n ≤ 9223372036854775806 := Nat.le_trans hp.d.le (by decide)
  have HC := Lib.hid (pcopied2_spec p W ⟨⟨hp.d.rd.below hbW, hp.d.isb, Nat.le_trans hp.d.le (by decide)⟩, ⟨hp.g.rd.below hbW, hp.g.isb, Nat.le_trans hp.g.le (by decide)⟩⟩ (Nat.le_trans hp.d.le (by decide)) (Nat.le_trans hp.g.le (by decide)))
  have HRT := Lib.hid ((Peer.right_con hp.d.len hp.g.len).trans hr)
  have HP := Lib.hid hp
  have HM := Lib.hid hm
  have hm1 : ¬ mss < 1 := by omega
  clear hr hp hm
  go_enter Try.func18, Try.ntmps18
  go_upto_region 1 with (fail)
  rw [← hW]
  clear hW
  go_wp2_with (refine wpList_ldB 26 _ _ (by with_reducible rfl) rfl (by rfl) (by assumption) Try.underlying26 rfl (peer_size (by rfl)) ?_)
  refine HC.out.mono ?_
  rintro e w1 ⟨hb1, A, c, B, k, rfl, oA, oB, oX⟩
  have B0' := B0.below hb1
  have B1' := B1.below hb1
  have B2' := B2.below hb1
  have OA := Lib.hid oA
  have OB := Lib.hid oB
  have HR := Lib.hid (fun w => pright_spec (p.with_ A c B k) w hdn)
  rw [Peer.right_with, HRT.out] at HR
  clear B0 B1 B2 oA oB HC oX
  go_wp2_with (first | (refine wpList_stB 26 _ _ (by with_reducible rfl) rfl (by rfl) _ (by rfl) (by assumption) (by rfl) (peer_size (by rfl)) (by rfl) ?_; intro wN BN hO) | (refine wpList_ldB 26 _ _ (by with_reducible rfl) rfl (by rfl) (by assumption) Try.underlying26 rfl (peer_size (by rfl)) ?_))
  have B1 := B1'.only hO (by omega)
  have B2 := B2'.only hO (by omega)
  have hbN := hO.bel (by omega) (bel_then hbW hb1)
  have hsN := hO.size
  have hs1 := hb1.size
  have OA2 := Lib.hid (own_only OA.out hO (by omega))
  have OB2 := Lib.hid (own_only OB.out hO (by omega))
  clear B0' B1' B2' OA OB
  refine (HR.out wN).mono ?_
  rintro e w3 ⟨rfl, hb3⟩
  have B0' := BN.below hb3
  have B1' := B1.below hb3
  have B2' := B2.below hb3
  have OA4 := own_below OA2.out hb3
  have HS := Lib.hid (psayG_spec (p.with_ A c B k) mss w3 HM.out (Rd.of_own OA4) HP.out.d.isb HP.out.d.le (own_cap OA4))
  clear BN B1 B2 OA4
  go_wp2_with (first | (refine wpList_ldB 26 _ _ (by with_reducible rfl) rfl (by rfl) (by assumption) Try.underlying26 rfl (peer_size (by rfl)) ?_))
  refine HS.out.mono ?_
  rintro e w4 ⟨hb4, ne, t, rfl, oT, h1, h2⟩
  rw [Peer.con_with] at h1 h2
  simp only [Peer.con_with]
  have B1 := B1'.below hb4
  have B2 := B2'.below hb4
  have hb34 := bel_then hb3 hb4
  have OA3 := Lib.hid (own_below OA2.out hb34)
  have OB3 := Lib.hid (own_below OB2.out hb34)
  have hs3 := hb34.size
  have hs4 := hb3.size
  have OT := Lib.hid oT
  have H1 := Lib.hid h1
  have H2 := Lib.hid h2
  clear B0' B1' B2' OA2 OB2 oT h1 h2 HS
  generalize hob : (Pb.sayC p.con mss).2.isSome = ob
  have HOB := Lib.hid hob
  clear hob
  go_wp2_with (first | (refine wpList_stB 26 _ _ (by with_reducible rfl) rfl (by rfl) _ (by rfl) (by assumption) (by rfl) (peer_size (by rfl)) (by rfl) ?_; intro wN BN hO) | (refine wpList_stB 37 _ _ (by with_reducible rfl) rfl (by rfl) _ (by rfl) (B2.only hO (by omega)) (by rfl) (tcp_size (by rfl)) (by rfl) ?_; intro wM BM hM))
  have BN' := BN.only hM (by omega)
  obtain ⟨r0, r1, r2, r3, r4, r5, r6, r7, r8, r9, r10⟩ := cells11 BN'
  obtain ⟨t0, t1, t2, t3, t4, t5, t6, t7, t8⟩ := cells9 BM
  clear B1 B2 BN BM BN'
  refine bodyPost_ret (v := .tuple #[.agg #[.int .i64 p.st, .int .i64 p.port, .int .i64 p.to, .int .u32 p.fi, .int .u32 p.un, .int .u32 ne, .int .u32 p.wa, .int .i64 p.wi, .int .i64 p.ot, .slice A p.d.n c, .slice B p.g.n k], .agg #[.int .i64 t.sp, .int .i64 t.dp, .int .u32 t.sq, .int .u32 t.ak, .int .i64 t.fl, .int .i64 t.wi, .int .i64 t.ur, .slice t.Ao t.no t.co, .slice t.Ab t.nb t.cb], .bool ob]) (by simp [results, Try.results18, go_sem, Peer.P.with_, r0, r1, r2, r3, r4, r5, r6, r7, r8, r9, r10, t0, t1, t2, t3, t4, t5, t6, t7, t8]) rfl ?_
  rw [← HOB.out]
  exact ptR_say (hM.bel (by omega) (hO.bel (by omega) (bel_then hbN hb34))) ⟨own_weak (own_only (own_only OA3.out hO (by omega)) hM (by omega)) (by omega), HP.out.d.isb, HP.out.d.le⟩ ⟨own_weak (own_only (own_only OB3.out hO (by omega)) hM (by omega)) (by omega), HP.out.g.isb, HP.out.g.le⟩ ⟨own_weak (own_only (own_only OT.out.own hO (by omega)) hM (by omega)) (by omega), OT.out.isb, OT.out.le⟩ H1.out H2.out
end Go.Proofs.Ytihhcalgjkkalaa
