/- The walk of peer.Hear whatever the state, where what comes fits. (Printed by tools/gen_pbhear.py.) -/
import Derived.Test.YtihhcalgjkkalaaPbHears
import Derived.Test.YtihhcalgjkkalaaPeerHearW
namespace Go.Proofs.Ytihhcalgjkkalaa
open Go.RowKit
set_option linter.unusedVariables false
set_option linter.unusedSimpArgs false
/-- what comes is taken by the state -/
def Pb.Takes (p : Pb.Pc) (t : Pb.Tc) : Prop :=
  (p.st = 1 ∧ Pb.fl_ t 18 = 2) ∨ (p.st = 2 ∧ Pb.fl_ t 18 = 18 ∧ t.ak = Seq.step p.fi 1) ∨ (p.st = 3 ∧ (Pb.fl_ t 2 ≠ 0 ∨ (Pb.fl_ t 16 ≠ 0 ∧ t.ak = Seq.step p.fi 1))) ∨ (p.st = 4 ∧ (Pb.fl_ t 2 ≠ 0 ∨ Pb.fl_ t 16 ≠ 0))
theorem phears_spec (p : Peer.P) (t : Tcp.T) (w0 w : World) (hb0 : Below w0.heap.size w0 w) (hp : OwnP w w0.heap.size p) (hx : apart (.slice p.d.A p.d.n p.d.c) (.slice p.g.A p.g.n p.g.c)) (hr : Rd w 1 t.Ab t.nb (bs t.body)) (hB : isB t.body) (hn : t.nb ≤ 65536) (hc : t.nb ≤ t.cb) (h3 : p.st = 3) (hf : Pb.fl_ t.con 2 ≠ 0 ∨ (Pb.fl_ t.con 16 ≠ 0 ∧ t.ak = Seq.step p.fi 1)) :
    Calls Try.prog 26 #[.agg #[.int .i64 p.st, .int .i64 p.port, .int .i64 p.to, .int .u32 p.fi, .int .u32 p.un, .int .u32 p.ne, .int .u32 p.wa, .int .i64 p.wi, .int .i64 p.ot, .slice p.d.A p.d.n p.d.c, .slice p.g.A p.g.n p.g.c], .agg #[.int .i64 t.sp, .int .i64 t.dp, .int .u32 t.sq, .int .u32 t.ak, .int .i64 t.fl, .int .i64 t.wi, .int .i64 t.ur, .slice t.Ao t.no t.co, .slice t.Ab t.nb t.cb]] w (PtR2 w0 w (Value.slice p.g.A p.g.n p.g.c).ownBlock (Pb.hearC p.con t.con)) := by
  have e3 : p.con.st = 3 := h3
  by_cases h : Pb.fl_ t.con 2 ≠ 0
  · have e : Pb.hearC p.con t.con = Pb.sayC p.con 1 := by
      unfold Pb.hearC
      rw [if_neg (by rw [e3]; decide), if_neg (by rw [e3]; decide), if_pos e3, if_pos h]
    rw [e]
    exact phears_syn p t w0 w hb0 hp h3 (by simpa [Pb.fl_, Tcp.T.con] using h)
  · obtain ⟨h16, hak⟩ := hf.resolve_left h
    have e : Pb.hearC p.con t.con = Pb.speakC (Pb.openC p.con t.con) t.con := by
      unfold Pb.hearC
      rw [if_neg (by rw [e3]; decide), if_neg (by rw [e3]; decide), if_pos e3, if_neg h, if_neg (fun k => by rcases k with k | k; exact h16 k; exact k hak)]
    rw [e]
    exact phears_ack p t w0 w hb0 hp hx hr hB hn hc (by simpa [Pb.fl_, Tcp.T.con] using h) (by simpa [Pb.fl_, Tcp.T.con] using h16) (by simpa using hak)
theorem pspeaks_spec (p : Peer.P) (t : Tcp.T) (w0 w : World) (hb0 : Below w0.heap.size w0 w) (hp : OwnP w w0.heap.size p) (hx : apart (.slice p.d.A p.d.n p.d.c) (.slice p.g.A p.g.n p.g.c)) (hr : Rd w 1 t.Ab t.nb (bs t.body)) (hB : isB t.body) (hn : t.nb ≤ 65536) (hc : t.nb ≤ t.cb) (h4 : p.st = 4) (hf : Pb.fl_ t.con 2 ≠ 0 ∨ Pb.fl_ t.con 16 ≠ 0) :
    Calls Try.prog 27 #[.agg #[.int .i64 p.st, .int .i64 p.port, .int .i64 p.to, .int .u32 p.fi, .int .u32 p.un, .int .u32 p.ne, .int .u32 p.wa, .int .i64 p.wi, .int .i64 p.ot, .slice p.d.A p.d.n p.d.c, .slice p.g.A p.g.n p.g.c], .agg #[.int .i64 t.sp, .int .i64 t.dp, .int .u32 t.sq, .int .u32 t.ak, .int .i64 t.fl, .int .i64 t.wi, .int .i64 t.ur, .slice t.Ao t.no t.co, .slice t.Ab t.nb t.cb]] w (PtR2 w0 w (Value.slice p.g.A p.g.n p.g.c).ownBlock (Pb.hearC p.con t.con)) := by
  have e4 : p.con.st = 4 := h4
  have e : Pb.hearC p.con t.con = Pb.speakC p.con t.con := by
    unfold Pb.hearC
    rw [if_neg (by rw [e4]; decide), if_neg (by rw [e4]; decide), if_neg (by rw [e4]; decide), if_pos e4]
  rw [e]
  exact pspeak_spec p t w0 w hb0 hp hx hr hB hn hc hf
set_option maxHeartbeats 16000000 in
theorem phear_hears (p : Peer.P) (t : Tcp.T) (w : World) (base : Nat) (hp : OwnP w base p) (hr0 : Rd w 1 t.Ab t.nb (bs t.body)) (hB : isB t.body) (hn : t.nb ≤ 65536) (hc : t.nb ≤ t.cb) (hst : p.st = 3) (hfl : Pb.fl_ t.con 2 ≠ 0 ∨ (Pb.fl_ t.con 16 ≠ 0 ∧ t.ak = Seq.step p.fi 1)) (hx : (t.dp == p.port) = true) (hz : (t.sp == p.to) = true)
    (hr : Peer.right p = true) (hf : (Go.bits .and .i64 t.fl 4 != 0) = false) (hws : Peer.within t.sp 0 65535 = true) (hww : Peer.within t.wi 0 65535 = true) :
    Calls Try.prog 14 #[.agg #[.int .i64 p.st, .int .i64 p.port, .int .i64 p.to, .int .u32 p.fi, .int .u32 p.un, .int .u32 p.ne, .int .u32 p.wa, .int .i64 p.wi, .int .i64 p.ot, .slice p.d.A p.d.n p.d.c, .slice p.g.A p.g.n p.g.c], .agg #[.int .i64 t.sp, .int .i64 t.dp, .int .u32 t.sq, .int .u32 t.ak, .int .i64 t.fl, .int .i64 t.wi, .int .i64 t.ur, .slice t.Ao t.no t.co, .slice t.Ab t.nb t.cb]] w (PtR w.heap.size (Pb.hearC p.con t.con) w) := by
  obtain ⟨W, hW⟩ : ∃ W, W = (((w.alloc (.cells #[.int .i64 p.st, .int .i64 p.port, .int .i64 p.to, .int .u32 p.fi, .int .u32 p.un, .int .u32 p.ne, .int .u32 p.wa, .int .i64 p.wi, .int .i64 p.ot, .slice p.d.A p.d.n p.d.c, .slice p.g.A p.g.n p.g.c] 26)).alloc (.cells #[.int .i64 t.sp, .int .i64 t.dp, .int .u32 t.sq, .int .u32 t.ak, .int .i64 t.fl, .int .i64 t.wi, .int .i64 t.ur, .slice t.Ao t.no t.co, .slice t.Ab t.nb t.cb] 37)).alloc (.cells #[.int .i64 0, .int .i64 0, .int .i64 0, .int .u32 0, .int .u32 0, .int .u32 0, .int .u32 0, .int .i64 0, .int .i64 0, .slice none 0 0, .slice none 0 0] 26)).alloc (.cells #[.int .i64 0, .int .i64 0, .int .u32 0, .int .u32 0, .int .i64 0, .int .i64 0, .int .i64 0, .slice none 0 0, .slice none 0 0] 37) := ⟨_, rfl⟩
  have hbW : Below w.heap.size w W := (by rw [hW]; exact ((((Below.refl _ _).alloc (Nat.le_refl _) _).alloc (by simp) _).alloc (by simp; omega) _).alloc (by simp; omega) _)
  have hWs : W.heap.size = w.heap.size + 4 := (by rw [hW]; simp)
  have B0 : BlkV W w.heap.size 26 [.int .i64 p.st, .int .i64 p.port, .int .i64 p.to, .int .u32 p.fi, .int .u32 p.un, .int .u32 p.ne, .int .u32 p.wa, .int .i64 p.wi, .int .i64 p.ot, .slice p.d.A p.d.n p.d.c, .slice p.g.A p.g.n p.g.c] := (by rw [hW]; exact (((BlkV.new w _ _).alloc _).alloc _).alloc _)
  have B1 : BlkV W (w.heap.size + 1) 37 [.int .i64 t.sp, .int .i64 t.dp, .int .u32 t.sq, .int .u32 t.ak, .int .i64 t.fl, .int .i64 t.wi, .int .i64 t.ur, .slice t.Ao t.no t.co, .slice t.Ab t.nb t.cb] := (by rw [hW]; exact ((BlkV.new_at (w.alloc (.cells #[.int .i64 p.st, .int .i64 p.port, .int .i64 p.to, .int .u32 p.fi, .int .u32 p.un, .int .u32 p.ne, .int .u32 p.wa, .int .i64 p.wi, .int .i64 p.ot, .slice p.d.A p.d.n p.d.c, .slice p.g.A p.g.n p.g.c] 26)) _ _ (by simp)).alloc _).alloc _)
  have B2 : BlkV W (w.heap.size + 1 + 1) 26 [.int .i64 0, .int .i64 0, .int .i64 0, .int .u32 0, .int .u32 0, .int .u32 0, .int .u32 0, .int .i64 0, .int .i64 0, .slice none 0 0, .slice none 0 0] := (by rw [hW]; exact (BlkV.new_at ((w.alloc (.cells #[.int .i64 p.st, .int .i64 p.port, .int .i64 p.to, .int .u32 p.fi, .int .u32 p.un, .int .u32 p.ne, .int .u32 p.wa, .int .i64 p.wi, .int .i64 p.ot, .slice p.d.A p.d.n p.d.c, .slice p.g.A p.g.n p.g.c] 26)).alloc (.cells #[.int .i64 t.sp, .int .i64 t.dp, .int .u32 t.sq, .int .u32 t.ak, .int .i64 t.fl, .int .i64 t.wi, .int .i64 t.ur, .slice t.Ao t.no t.co, .slice t.Ab t.nb t.cb] 37)) _ _ (by simp)).alloc _)
  have B3 : BlkV W (w.heap.size + 1 + 1 + 1) 37 [.int .i64 0, .int .i64 0, .int .u32 0, .int .u32 0, .int .i64 0, .int .i64 0, .int .i64 0, .slice none 0 0, .slice none 0 0] := (by rw [hW]; exact (BlkV.new_at (((w.alloc (.cells #[.int .i64 p.st, .int .i64 p.port, .int .i64 p.to, .int .u32 p.fi, .int .u32 p.un, .int .u32 p.ne, .int .u32 p.wa, .int .i64 p.wi, .int .i64 p.ot, .slice p.d.A p.d.n p.d.c, .slice p.g.A p.g.n p.g.c] 26)).alloc (.cells #[.int .i64 t.sp, .int .i64 t.dp, .int .u32 t.sq, .int .u32 t.ak, .int .i64 t.fl, .int .i64 t.wi, .int .i64 t.ur, .slice t.Ao t.no t.co, .slice t.Ab t.nb t.cb] 37)).alloc (.cells #[.int .i64 0, .int .i64 0, .int .i64 0, .int .u32 0, .int .u32 0, .int .u32 0, .int .u32 0, .int .i64 0, .int .i64 0, .slice none 0 0, .slice none 0 0] 26)) _ _ (by simp)))
  have hy : (p.st == 1) = false := by rw [hst]; rfl
  have h2 : (p.st == 2) = false := by rw [hst]; rfl
  have h3 : (p.st == 3) = true := by rw [hst]; rfl
  have h4 : (p.st == 4) = false := by rw [hst]; rfl
  have HC := Lib.hid (pcopied2_spec p W ⟨⟨hp.d.rd.below hbW, hp.d.isb, Nat.le_trans hp.d.le (by decide)⟩, ⟨hp.g.rd.below hbW, hp.g.isb, Nat.le_trans hp.g.le (by decide)⟩⟩ (Nat.le_trans hp.d.le (by decide)) (Nat.le_trans hp.g.le (by decide)))
  have hdn : p.d.n ≤ 9223372036854775806 := Nat.le_trans hp.d.le (by decide)
  have HW1 := Lib.hid (pwithin_spec t.sp 0 65535)
  have HW2 := Lib.hid (pwithin_spec t.wi 0 65535)
  rw [hws] at HW1
  rw [hww] at HW2
  have HRT := Lib.hid hr
  have HPQ := Lib.hid hp
  have HRD := Lib.hid hr0
  have HIB := Lib.hid hB
  have HST := Lib.hid hst
  have HFL := Lib.hid hfl
  clear hws hww hr hp hr0 hB hst hfl
  go_enter Try.func14, Try.ntmps14
  go_upto_region 1 with (fail)
  rw [← hW]
  clear hW
  go_wp2_with (refine wpList_ldB 26 _ _ (by with_reducible rfl) rfl (by rfl) (by assumption) Try.underlying26 rfl (peer_size (by rfl)) ?_)
  refine HC.out.mono ?_
  rintro e w1 ⟨hb1, A, c, B, k, rfl, oA, oB, hap⟩
  have B0' := B0.below hb1
  have B1' := B1.below hb1
  have B2' := B2.below hb1
  have B3' := B3.below hb1
  have HR := Lib.hid (fun w => pright_spec (p.with_ A c B k) w hdn)
  rw [Peer.right_with, HRT.out] at HR
  have OA := Lib.hid oA
  have OB := Lib.hid oB
  have HAP := Lib.hid hap
  clear B0 B1 B2 B3 HC oA oB hap
  go_upto_region 2 with (first | (refine wpList_stB 26 _ _ (by with_reducible rfl) rfl (by rfl) [.int .i64 p.st, .int .i64 p.port, .int .i64 p.to, .int .u32 p.fi, .int .u32 p.un, .int .u32 p.ne, .int .u32 p.wa, .int .i64 p.wi, .int .i64 p.ot, .slice A p.d.n c, .slice B p.g.n k] (by rfl) (by assumption) (by rfl) (peer_size (by rfl)) (by rfl) ?_; intro wN BN hO; have B1n := B1'.only hO (by omega); obtain ⟨c0, c1, c2, c3, c4, c5, c6, c7, c8, c9, c10⟩ := cells11 BN; obtain ⟨m0, m1, m2, m3, m4, m5, m6, m7, m8⟩ := cells9 B1n))
  go_upto_region 3 with (fail)
  go_wp2_with (refine wpList_ldB 26 _ _ (by with_reducible rfl) rfl (by rfl) (by assumption) Try.underlying26 rfl (peer_size (by rfl)) ?_)
  refine (HR.out wN).mono ?_
  rintro e w3 ⟨rfl, hb3⟩
  have B0 := BN.below hb3
  have B1 := B1n.below hb3
  have B2 := (B2'.only hO (by omega)).below hb3
  have B3 := (B3'.only hO (by omega)).below hb3
  have hbN := bel_then (hO.bel (by omega) (bel_then hbW hb1)) hb3
  have OA3 := Lib.hid (own_below (own_only OA.out hO (by omega)) hb3)
  have OB3 := Lib.hid (own_below (own_only OB.out hO (by omega)) hb3)
  have hs3 : W.heap.size ≤ w3.heap.size := Nat.le_trans hb1.size (Nat.le_trans (Nat.le_of_eq hO.size.symm) hb3.size)
  clear BN B1n B0' B1' B2' B3' OA OB HR hO hb1 hb3 c0 c1 c2 c3 c4 c5 c6 c7 c8 c9 c10 m0 m1 m2 m3 m4 m5 m6 m7 m8
  obtain ⟨m0, m1, m2, m3, m4, m5, m6, m7, m8⟩ := cells9 B1
  have c0 := cellF B0 0 rfl
  have HQ := Lib.hid (phears_spec (p.with_ A c B k) t w w3 hbN ⟨⟨own_weak OA3.out (by omega), HPQ.out.d.isb, HPQ.out.d.le⟩, ⟨own_weak OB3.out (by omega), HPQ.out.g.isb, HPQ.out.g.le⟩⟩ HAP.out (HRD.out.below hbN) HIB.out hn hc HST.out HFL.out)
  rw [Peer.con_with] at HQ
  have HLT : Hid (∀ g, (Value.slice B p.g.n k).ownBlock = some g → W.heap.size ≤ g) := Lib.hid fun g hg => (OB3.out.lt g hg).1
  go_wp2_with (first | (refine wpList_ldB 26 _ _ (by with_reducible rfl) rfl (by rfl) (by assumption) Try.underlying26 rfl (peer_size (by rfl)) ?_) | (refine wpList_ldB 37 _ _ (by with_reducible rfl) rfl (by rfl) (by assumption) Try.underlying37 rfl (tcp_size (by rfl)) ?_) | ((with_reducible first | refine (HW1.out _).mono ?_ | refine (HW2.out _).mono ?_); rintro e w' ⟨rfl, rfl⟩))
  refine HQ.out.mono ?_
  rintro e w5 ⟨⟨hb5, p3, t5, rfl, hp3, ht5, hc3, hc5⟩, hg5⟩
  have B2g := B2.grown hg5 (fun h => absurd (HLT.out _ h) (by omega))
  have B3g := B3.grown hg5 (fun h => absurd (HLT.out _ h) (by omega))
  have hs5 := hg5.size
  have HP3 := Lib.hid hp3
  have HT5 := Lib.hid ht5
  have HC3 := Lib.hid hc3
  have HC5 := Lib.hid hc5
  obtain ⟨ob, hob⟩ : ∃ b, b = (Pb.hearC p.con t.con).2.isSome := ⟨_, rfl⟩
  have HOB := Lib.hid hob
  rw [← hob]
  clear B0 B1 B2 B3 hp3 ht5 hc3 hc5 hg5 hob HQ HLT OA3 OB3 m0 m1 m2 m3 m4 m5 m6 m7 m8 c0
  go_wp2_with (first | (refine wpList_stB 26 _ _ (by with_reducible rfl) rfl (by rfl) _ (by rfl) (by assumption) (by rfl) (peer_size (by rfl)) (by rfl) ?_; intro wN BN hO) | (refine wpList_stB 37 _ _ (by with_reducible rfl) rfl (by rfl) _ (by rfl) (B3g.only hO (by omega)) (by rfl) (tcp_size (by rfl)) (by rfl) ?_; intro wM BM hM))
  have BN' := BN.only hM (by omega)
  obtain ⟨r0, r1, r2, r3, r4, r5, r6, r7, r8, r9, r10⟩ := cells11 BN'
  obtain ⟨t0, t1, t2, t3, t4, tt5, t6, t7, t8⟩ := cells9 BM
  exact bodyPost_ret (v := .tuple #[.agg #[.int .i64 p3.st, .int .i64 p3.port, .int .i64 p3.to, .int .u32 p3.fi, .int .u32 p3.un, .int .u32 p3.ne, .int .u32 p3.wa, .int .i64 p3.wi, .int .i64 p3.ot, .slice p3.d.A p3.d.n p3.d.c, .slice p3.g.A p3.g.n p3.g.c], .agg #[.int .i64 t5.sp, .int .i64 t5.dp, .int .u32 t5.sq, .int .u32 t5.ak, .int .i64 t5.fl, .int .i64 t5.wi, .int .i64 t5.ur, .slice t5.Ao t5.no t5.co, .slice t5.Ab t5.nb t5.cb], .bool ob]) (by simp [results, Try.results14, go_sem, r0, r1, r2, r3, r4, r5, r6, r7, r8, r9, r10, t0, t1, t2, t3, t4, tt5, t6, t7, t8]) rfl (ptR_any (hM.bel (by omega) (hO.bel (by omega) hb5)) ((HP3.out.st B2g hO (by decide)).st (B3g.only hO (by omega)) hM (by decide)) ((OwnS.st HT5.out B2g hO (by decide)).st (B3g.only hO (by omega)) hM (by decide)) HOB.out HC3.out HC5.out)
set_option maxHeartbeats 16000000 in
theorem phear_speaks (p : Peer.P) (t : Tcp.T) (w : World) (base : Nat) (hp : OwnP w base p) (hr0 : Rd w 1 t.Ab t.nb (bs t.body)) (hB : isB t.body) (hn : t.nb ≤ 65536) (hc : t.nb ≤ t.cb) (hst : p.st = 4) (hfl : Pb.fl_ t.con 2 ≠ 0 ∨ Pb.fl_ t.con 16 ≠ 0) (hx : (t.dp == p.port) = true) (hz : (t.sp == p.to) = true)
    (hr : Peer.right p = true) (hf : (Go.bits .and .i64 t.fl 4 != 0) = false) (hws : Peer.within t.sp 0 65535 = true) (hww : Peer.within t.wi 0 65535 = true) :
    Calls Try.prog 14 #[.agg #[.int .i64 p.st, .int .i64 p.port, .int .i64 p.to, .int .u32 p.fi, .int .u32 p.un, .int .u32 p.ne, .int .u32 p.wa, .int .i64 p.wi, .int .i64 p.ot, .slice p.d.A p.d.n p.d.c, .slice p.g.A p.g.n p.g.c], .agg #[.int .i64 t.sp, .int .i64 t.dp, .int .u32 t.sq, .int .u32 t.ak, .int .i64 t.fl, .int .i64 t.wi, .int .i64 t.ur, .slice t.Ao t.no t.co, .slice t.Ab t.nb t.cb]] w (PtR w.heap.size (Pb.hearC p.con t.con) w) := by
  obtain ⟨W, hW⟩ : ∃ W, W = (((w.alloc (.cells #[.int .i64 p.st, .int .i64 p.port, .int .i64 p.to, .int .u32 p.fi, .int .u32 p.un, .int .u32 p.ne, .int .u32 p.wa, .int .i64 p.wi, .int .i64 p.ot, .slice p.d.A p.d.n p.d.c, .slice p.g.A p.g.n p.g.c] 26)).alloc (.cells #[.int .i64 t.sp, .int .i64 t.dp, .int .u32 t.sq, .int .u32 t.ak, .int .i64 t.fl, .int .i64 t.wi, .int .i64 t.ur, .slice t.Ao t.no t.co, .slice t.Ab t.nb t.cb] 37)).alloc (.cells #[.int .i64 0, .int .i64 0, .int .i64 0, .int .u32 0, .int .u32 0, .int .u32 0, .int .u32 0, .int .i64 0, .int .i64 0, .slice none 0 0, .slice none 0 0] 26)).alloc (.cells #[.int .i64 0, .int .i64 0, .int .u32 0, .int .u32 0, .int .i64 0, .int .i64 0, .int .i64 0, .slice none 0 0, .slice none 0 0] 37) := ⟨_, rfl⟩
  have hbW : Below w.heap.size w W := (by rw [hW]; exact ((((Below.refl _ _).alloc (Nat.le_refl _) _).alloc (by simp) _).alloc (by simp; omega) _).alloc (by simp; omega) _)
  have hWs : W.heap.size = w.heap.size + 4 := (by rw [hW]; simp)
  have B0 : BlkV W w.heap.size 26 [.int .i64 p.st, .int .i64 p.port, .int .i64 p.to, .int .u32 p.fi, .int .u32 p.un, .int .u32 p.ne, .int .u32 p.wa, .int .i64 p.wi, .int .i64 p.ot, .slice p.d.A p.d.n p.d.c, .slice p.g.A p.g.n p.g.c] := (by rw [hW]; exact (((BlkV.new w _ _).alloc _).alloc _).alloc _)
  have B1 : BlkV W (w.heap.size + 1) 37 [.int .i64 t.sp, .int .i64 t.dp, .int .u32 t.sq, .int .u32 t.ak, .int .i64 t.fl, .int .i64 t.wi, .int .i64 t.ur, .slice t.Ao t.no t.co, .slice t.Ab t.nb t.cb] := (by rw [hW]; exact ((BlkV.new_at (w.alloc (.cells #[.int .i64 p.st, .int .i64 p.port, .int .i64 p.to, .int .u32 p.fi, .int .u32 p.un, .int .u32 p.ne, .int .u32 p.wa, .int .i64 p.wi, .int .i64 p.ot, .slice p.d.A p.d.n p.d.c, .slice p.g.A p.g.n p.g.c] 26)) _ _ (by simp)).alloc _).alloc _)
  have B2 : BlkV W (w.heap.size + 1 + 1) 26 [.int .i64 0, .int .i64 0, .int .i64 0, .int .u32 0, .int .u32 0, .int .u32 0, .int .u32 0, .int .i64 0, .int .i64 0, .slice none 0 0, .slice none 0 0] := (by rw [hW]; exact (BlkV.new_at ((w.alloc (.cells #[.int .i64 p.st, .int .i64 p.port, .int .i64 p.to, .int .u32 p.fi, .int .u32 p.un, .int .u32 p.ne, .int .u32 p.wa, .int .i64 p.wi, .int .i64 p.ot, .slice p.d.A p.d.n p.d.c, .slice p.g.A p.g.n p.g.c] 26)).alloc (.cells #[.int .i64 t.sp, .int .i64 t.dp, .int .u32 t.sq, .int .u32 t.ak, .int .i64 t.fl, .int .i64 t.wi, .int .i64 t.ur, .slice t.Ao t.no t.co, .slice t.Ab t.nb t.cb] 37)) _ _ (by simp)).alloc _)
  have B3 : BlkV W (w.heap.size + 1 + 1 + 1) 37 [.int .i64 0, .int .i64 0, .int .u32 0, .int .u32 0, .int .i64 0, .int .i64 0, .int .i64 0, .slice none 0 0, .slice none 0 0] := (by rw [hW]; exact (BlkV.new_at (((w.alloc (.cells #[.int .i64 p.st, .int .i64 p.port, .int .i64 p.to, .int .u32 p.fi, .int .u32 p.un, .int .u32 p.ne, .int .u32 p.wa, .int .i64 p.wi, .int .i64 p.ot, .slice p.d.A p.d.n p.d.c, .slice p.g.A p.g.n p.g.c] 26)).alloc (.cells #[.int .i64 t.sp, .int .i64 t.dp, .int .u32 t.sq, .int .u32 t.ak, .int .i64 t.fl, .int .i64 t.wi, .int .i64 t.ur, .slice t.Ao t.no t.co, .slice t.Ab t.nb t.cb] 37)).alloc (.cells #[.int .i64 0, .int .i64 0, .int .i64 0, .int .u32 0, .int .u32 0, .int .u32 0, .int .u32 0, .int .i64 0, .int .i64 0, .slice none 0 0, .slice none 0 0] 26)) _ _ (by simp)))
  have hy : (p.st == 1) = false := by rw [hst]; rfl
  have h2 : (p.st == 2) = false := by rw [hst]; rfl
  have h3 : (p.st == 3) = false := by rw [hst]; rfl
  have h4 : (p.st == 4) = true := by rw [hst]; rfl
  have HC := Lib.hid (pcopied2_spec p W ⟨⟨hp.d.rd.below hbW, hp.d.isb, Nat.le_trans hp.d.le (by decide)⟩, ⟨hp.g.rd.below hbW, hp.g.isb, Nat.le_trans hp.g.le (by decide)⟩⟩ (Nat.le_trans hp.d.le (by decide)) (Nat.le_trans hp.g.le (by decide)))
  have hdn : p.d.n ≤ 9223372036854775806 := Nat.le_trans hp.d.le (by decide)
  have HW1 := Lib.hid (pwithin_spec t.sp 0 65535)
  have HW2 := Lib.hid (pwithin_spec t.wi 0 65535)
  rw [hws] at HW1
  rw [hww] at HW2
  have HRT := Lib.hid hr
  have HPQ := Lib.hid hp
  have HRD := Lib.hid hr0
  have HIB := Lib.hid hB
  have HST := Lib.hid hst
  have HFL := Lib.hid hfl
  clear hws hww hr hp hr0 hB hst hfl
  go_enter Try.func14, Try.ntmps14
  go_upto_region 1 with (fail)
  rw [← hW]
  clear hW
  go_wp2_with (refine wpList_ldB 26 _ _ (by with_reducible rfl) rfl (by rfl) (by assumption) Try.underlying26 rfl (peer_size (by rfl)) ?_)
  refine HC.out.mono ?_
  rintro e w1 ⟨hb1, A, c, B, k, rfl, oA, oB, hap⟩
  have B0' := B0.below hb1
  have B1' := B1.below hb1
  have B2' := B2.below hb1
  have B3' := B3.below hb1
  have HR := Lib.hid (fun w => pright_spec (p.with_ A c B k) w hdn)
  rw [Peer.right_with, HRT.out] at HR
  have OA := Lib.hid oA
  have OB := Lib.hid oB
  have HAP := Lib.hid hap
  clear B0 B1 B2 B3 HC oA oB hap
  go_upto_region 2 with (first | (refine wpList_stB 26 _ _ (by with_reducible rfl) rfl (by rfl) [.int .i64 p.st, .int .i64 p.port, .int .i64 p.to, .int .u32 p.fi, .int .u32 p.un, .int .u32 p.ne, .int .u32 p.wa, .int .i64 p.wi, .int .i64 p.ot, .slice A p.d.n c, .slice B p.g.n k] (by rfl) (by assumption) (by rfl) (peer_size (by rfl)) (by rfl) ?_; intro wN BN hO; have B1n := B1'.only hO (by omega); obtain ⟨c0, c1, c2, c3, c4, c5, c6, c7, c8, c9, c10⟩ := cells11 BN; obtain ⟨m0, m1, m2, m3, m4, m5, m6, m7, m8⟩ := cells9 B1n))
  go_upto_region 3 with (fail)
  go_wp2_with (refine wpList_ldB 26 _ _ (by with_reducible rfl) rfl (by rfl) (by assumption) Try.underlying26 rfl (peer_size (by rfl)) ?_)
  refine (HR.out wN).mono ?_
  rintro e w3 ⟨rfl, hb3⟩
  have B0 := BN.below hb3
  have B1 := B1n.below hb3
  have B2 := (B2'.only hO (by omega)).below hb3
  have B3 := (B3'.only hO (by omega)).below hb3
  have hbN := bel_then (hO.bel (by omega) (bel_then hbW hb1)) hb3
  have OA3 := Lib.hid (own_below (own_only OA.out hO (by omega)) hb3)
  have OB3 := Lib.hid (own_below (own_only OB.out hO (by omega)) hb3)
  have hs3 : W.heap.size ≤ w3.heap.size := Nat.le_trans hb1.size (Nat.le_trans (Nat.le_of_eq hO.size.symm) hb3.size)
  clear BN B1n B0' B1' B2' B3' OA OB HR hO hb1 hb3 c0 c1 c2 c3 c4 c5 c6 c7 c8 c9 c10 m0 m1 m2 m3 m4 m5 m6 m7 m8
  obtain ⟨m0, m1, m2, m3, m4, m5, m6, m7, m8⟩ := cells9 B1
  have c0 := cellF B0 0 rfl
  have HQ := Lib.hid (pspeaks_spec (p.with_ A c B k) t w w3 hbN ⟨⟨own_weak OA3.out (by omega), HPQ.out.d.isb, HPQ.out.d.le⟩, ⟨own_weak OB3.out (by omega), HPQ.out.g.isb, HPQ.out.g.le⟩⟩ HAP.out (HRD.out.below hbN) HIB.out hn hc HST.out HFL.out)
  rw [Peer.con_with] at HQ
  have HLT : Hid (∀ g, (Value.slice B p.g.n k).ownBlock = some g → W.heap.size ≤ g) := Lib.hid fun g hg => (OB3.out.lt g hg).1
  go_wp2_with (first | (refine wpList_ldB 26 _ _ (by with_reducible rfl) rfl (by rfl) (by assumption) Try.underlying26 rfl (peer_size (by rfl)) ?_) | (refine wpList_ldB 37 _ _ (by with_reducible rfl) rfl (by rfl) (by assumption) Try.underlying37 rfl (tcp_size (by rfl)) ?_) | ((with_reducible first | refine (HW1.out _).mono ?_ | refine (HW2.out _).mono ?_); rintro e w' ⟨rfl, rfl⟩))
  refine HQ.out.mono ?_
  rintro e w5 ⟨⟨hb5, p3, t5, rfl, hp3, ht5, hc3, hc5⟩, hg5⟩
  have B2g := B2.grown hg5 (fun h => absurd (HLT.out _ h) (by omega))
  have B3g := B3.grown hg5 (fun h => absurd (HLT.out _ h) (by omega))
  have hs5 := hg5.size
  have HP3 := Lib.hid hp3
  have HT5 := Lib.hid ht5
  have HC3 := Lib.hid hc3
  have HC5 := Lib.hid hc5
  obtain ⟨ob, hob⟩ : ∃ b, b = (Pb.hearC p.con t.con).2.isSome := ⟨_, rfl⟩
  have HOB := Lib.hid hob
  rw [← hob]
  clear B0 B1 B2 B3 hp3 ht5 hc3 hc5 hg5 hob HQ HLT OA3 OB3 m0 m1 m2 m3 m4 m5 m6 m7 m8 c0
  go_wp2_with (first | (refine wpList_stB 26 _ _ (by with_reducible rfl) rfl (by rfl) _ (by rfl) (by assumption) (by rfl) (peer_size (by rfl)) (by rfl) ?_; intro wN BN hO) | (refine wpList_stB 37 _ _ (by with_reducible rfl) rfl (by rfl) _ (by rfl) (B3g.only hO (by omega)) (by rfl) (tcp_size (by rfl)) (by rfl) ?_; intro wM BM hM))
  have BN' := BN.only hM (by omega)
  obtain ⟨r0, r1, r2, r3, r4, r5, r6, r7, r8, r9, r10⟩ := cells11 BN'
  obtain ⟨t0, t1, t2, t3, t4, tt5, t6, t7, t8⟩ := cells9 BM
  exact bodyPost_ret (v := .tuple #[.agg #[.int .i64 p3.st, .int .i64 p3.port, .int .i64 p3.to, .int .u32 p3.fi, .int .u32 p3.un, .int .u32 p3.ne, .int .u32 p3.wa, .int .i64 p3.wi, .int .i64 p3.ot, .slice p3.d.A p3.d.n p3.d.c, .slice p3.g.A p3.g.n p3.g.c], .agg #[.int .i64 t5.sp, .int .i64 t5.dp, .int .u32 t5.sq, .int .u32 t5.ak, .int .i64 t5.fl, .int .i64 t5.wi, .int .i64 t5.ur, .slice t5.Ao t5.no t5.co, .slice t5.Ab t5.nb t5.cb], .bool ob]) (by simp [results, Try.results14, go_sem, r0, r1, r2, r3, r4, r5, r6, r7, r8, r9, r10, t0, t1, t2, t3, t4, tt5, t6, t7, t8]) rfl (ptR_any (hM.bel (by omega) (hO.bel (by omega) hb5)) ((HP3.out.st B2g hO (by decide)).st (B3g.only hO (by omega)) hM (by decide)) ((OwnS.st HT5.out B2g hO (by decide)).st (B3g.only hO (by omega)) hM (by decide)) HOB.out HC3.out HC5.out)
/-- SayC as an answer -/
theorem ptR_sayC {q : Peer.P} {o : Pb.Pc × Option Pb.Tc} {fl num ack : Int} {w : World} {e : Ending} {w' : World} (h : SayC q fl num ack w e w') (hd : isB q.d.l ∧ q.d.n ≤ 65536) (hg : isB q.g.l ∧ q.g.n ≤ 65536) (e1 : o.1 = q.con) (e2 : o.2 = some ⟨q.port, q.to, num, ack, fl, q.wi, []⟩) : PtR w.heap.size o w e w' := by
  obtain ⟨hb, A, c, B, k, D, m, rfl, oA, oB, oD⟩ := h
  exact ptR_tell (p := ⟨q.st, q.port, q.to, q.fi, q.un, q.ne, q.wa, q.wi, q.ot, ⟨A, q.d.n, c, q.d.l⟩, ⟨B, q.g.n, k, q.g.l⟩⟩) hb ⟨⟨oA, hd.1, hd.2⟩, ⟨oB, hg.1, hg.2⟩⟩ oD e1 e2
structure Pb.In32 (p : Pb.Pc) : Prop where
  fi : 0 ≤ p.fi ∧ p.fi ≤ 4294967295
  un : 0 ≤ p.un ∧ p.un ≤ 4294967295
  ne : 0 ≤ p.ne ∧ p.ne ≤ 4294967295
  wa : 0 ≤ p.wa ∧ p.wa ≤ 4294967295
theorem OwnS.slok {w : World} {base : Nat} {s : Peer.Sl} (h : OwnS w base s.A s.n s.c s.l) : s.ok w := ⟨h.rd, h.isb, Nat.le_trans h.le (by decide)⟩
theorem pHearG_spec (p : Peer.P) (t : Tcp.T) (w : World) (base : Nat) (hp : OwnP w base p) (hi : Pb.In32 p.con) (hr0 : Rd w 1 t.Ab t.nb (bs t.body)) (hB : isB t.body) (hn : t.nb ≤ 65536) (hc : t.nb ≤ t.cb) (hF : Pb.Fits p.con t.con) (hT : Pb.Takes p.con t.con) :
    Calls Try.prog 14 #[.agg #[.int .i64 p.st, .int .i64 p.port, .int .i64 p.to, .int .u32 p.fi, .int .u32 p.un, .int .u32 p.ne, .int .u32 p.wa, .int .i64 p.wi, .int .i64 p.ot, .slice p.d.A p.d.n p.d.c, .slice p.g.A p.g.n p.g.c], .agg #[.int .i64 t.sp, .int .i64 t.dp, .int .u32 t.sq, .int .u32 t.ak, .int .i64 t.fl, .int .i64 t.wi, .int .i64 t.ur, .slice t.Ao t.no t.co, .slice t.Ab t.nb t.cb]] w (PtR w.heap.size (Pb.hearC p.con t.con) w) := by
  have hok : p.ok w := ⟨hi.fi, hi.un, hi.ne, hi.wa, OwnS.slok hp.d, OwnS.slok hp.g⟩
  have hd := Nat.le_trans hp.d.le (show 65536 ≤ 140737488355328 by decide)
  have hg := Nat.le_trans hp.g.le (show 65536 ≤ 140737488355328 by decide)
  have hr : Peer.right p = true := (Peer.right_con hp.d.len hp.g.len).trans hF.r
  have hx : (t.dp == p.port) = true := beq_iff_eq.2 hF.dp
  have hf : (Go.bits .and .i64 t.fl 4 != 0) = false := by simpa [Pb.fl_, Tcp.T.con] using hF.rst
  rcases hT with ⟨h1, k1⟩ | ⟨h1, k1, k2⟩ | ⟨h1, k1⟩ | ⟨h1, k1⟩
  · have e : Pb.hearC p.con t.con = Pb.sayC (Pb.heardC p.con t.con) 1 := by unfold Pb.hearC; rw [if_pos h1, if_pos k1]
    refine (phear_waits p t w hok hd hg hx (beq_iff_eq.2 h1) (Lib.hid k1) hr hf hF.spr hF.wir).mono fun e w' h => ?_
    have h2 : Pb.hearC p.con t.con = ((Peer.heard p t).con, some ⟨p.port, t.sp, p.fi, Seq.step t.sq 1, 18, p.wi, []⟩) := by
      rw [‹Pb.hearC p.con t.con = _›]
      unfold Pb.sayC
      rw [if_neg (show ¬ (Pb.heardC p.con t.con).st = 2 from (by decide : ¬ (3 : Int) = 2)), if_pos (show (Pb.heardC p.con t.con).st = 3 from rfl)]
      rfl
    exact ptR_sayC h ⟨hp.d.isb, hp.d.le⟩ ⟨hp.g.isb, hp.g.le⟩ (by rw [h2]) (by rw [h2]; rfl)
  · have n1 : ¬ p.con.st = 1 := by rw [h1]; decide
    have h2 : Pb.hearC p.con t.con = ((Peer.speaks p t).con, some ⟨p.port, p.to, t.ak, Seq.step t.sq 1, 16, p.wi, []⟩) := by
      unfold Pb.hearC
      rw [if_neg n1, if_pos h1, if_pos ⟨k1, k2⟩]
      rfl
    have hz : (t.sp == p.to) = true := beq_iff_eq.2 (hF.sp.resolve_left n1)
    exact (phear_asks p t w hok hd hg hx (by have h1' : p.st = 2 := h1; rw [h1']; rfl) hz (beq_iff_eq.2 h1) (Lib.hid k1) (Lib.hid k2) hr hf hF.spr hF.wir).mono fun e w' h => ptR_sayC h ⟨hp.d.isb, hp.d.le⟩ ⟨hp.g.isb, hp.g.le⟩ (by rw [h2]) (by rw [h2]; rfl)
  · have hz : (t.sp == p.to) = true := beq_iff_eq.2 (hF.sp.resolve_left (by rw [h1]; decide))
    exact phear_hears p t w base hp hr0 hB hn hc h1 k1 hx hz hr hf hF.spr hF.wir
  · have hz : (t.sp == p.to) = true := beq_iff_eq.2 (hF.sp.resolve_left (by rw [h1]; decide))
    exact phear_speaks p t w base hp hr0 hB hn hc h1 k1 hx hz hr hf hF.spr hF.wir
end Go.Proofs.Ytihhcalgjkkalaa
