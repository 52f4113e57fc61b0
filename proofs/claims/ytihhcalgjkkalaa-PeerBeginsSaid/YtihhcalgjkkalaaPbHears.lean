/- The walks of peer.speak whatever comes, and of peer.hears. -/
import Derived.Test.YtihhcalgjkkalaaPbSpk2
namespace Go.Proofs.Ytihhcalgjkkalaa
open Go.RowKit
set_option linter.unusedVariables false
set_option linter.unusedSimpArgs false
theorem pspeak_spec (p : Peer.P) (t : Tcp.T) (w0 w : World) (hb0 : Below w0.heap.size w0 w) (hp : OwnP w w0.heap.size p) (hx : apart (.slice p.d.A p.d.n p.d.c) (.slice p.g.A p.g.n p.g.c)) (hr : Rd w 1 t.Ab t.nb (bs t.body)) (hB : isB t.body) (hn : t.nb ≤ 65536) (hc : t.nb ≤ t.cb) (hf : Pb.fl_ t.con 2 ≠ 0 ∨ Pb.fl_ t.con 16 ≠ 0) :
    Calls Try.prog 27 #[.agg #[.int .i64 p.st, .int .i64 p.port, .int .i64 p.to, .int .u32 p.fi, .int .u32 p.un, .int .u32 p.ne, .int .u32 p.wa, .int .i64 p.wi, .int .i64 p.ot, .slice p.d.A p.d.n p.d.c, .slice p.g.A p.g.n p.g.c], .agg #[.int .i64 t.sp, .int .i64 t.dp, .int .u32 t.sq, .int .u32 t.ak, .int .i64 t.fl, .int .i64 t.wi, .int .i64 t.ur, .slice t.Ao t.no t.co, .slice t.Ab t.nb t.cb]] w (PtR2 w0 w (Value.slice p.g.A p.g.n p.g.c).ownBlock (Pb.speakC p.con t.con)) := by
  by_cases h : Pb.fl_ t.con 2 ≠ 0
  · exact pspeak_syn p t w0 w hb0 hp (by simpa [Pb.fl_, Tcp.T.con] using h)
  · exact pspeak_main p t w0 w hb0 hp hx hr hB hn hc (by simpa [Pb.fl_, Tcp.T.con] using h) (by simpa [Pb.fl_, Tcp.T.con] using hf.resolve_left h)
theorem ptR_tell {p : Peer.P} {o : Pb.Pc × Option Pb.Tc} {fl num ack : Int} {w0 w' : World} {A : Option Addr} {c : Nat} (hb : Below w0.heap.size w0 w') (hp : OwnP w' w0.heap.size p) (ho : w'.ownsRow w0.heap.size 5 1 (.slice A 0 c) 0 []) (e1 : o.1 = p.con) (e2 : o.2 = some ⟨p.port, p.to, num, ack, fl, p.wi, []⟩) :
    PtR w0.heap.size o w0 (.returned (.tuple #[.agg #[.int .i64 p.st, .int .i64 p.port, .int .i64 p.to, .int .u32 p.fi, .int .u32 p.un, .int .u32 p.ne, .int .u32 p.wa, .int .i64 p.wi, .int .i64 p.ot, .slice p.d.A p.d.n p.d.c, .slice p.g.A p.g.n p.g.c], .agg #[.int .i64 p.port, .int .i64 p.to, .int .u32 num, .int .u32 ack, .int .i64 fl, .int .i64 p.wi, .int .i64 0, .slice none 0 0, .slice A 0 c], .bool true])) w' := by
  refine ⟨hb, p, ⟨p.port, p.to, num, ack, fl, p.wi, 0, none, 0, 0, A, 0, c, [], []⟩, ?_, hp, ⟨ho, (fun x hx => by cases hx), Nat.zero_le _⟩, e1.symm, ?_⟩
  · rw [e2]; rfl
  · rw [e2]; rfl
set_option maxHeartbeats 4000000 in
theorem phears_syn (p : Peer.P) (t : Tcp.T) (w0 w : World) (hb0 : Below w0.heap.size w0 w) (hp : OwnP w w0.heap.size p) (h3 : p.st = 3) (hf : (Go.bits .and .i64 t.fl 2 != 0) = true) :
    Calls Try.prog 26 #[.agg #[.int .i64 p.st, .int .i64 p.port, .int .i64 p.to, .int .u32 p.fi, .int .u32 p.un, .int .u32 p.ne, .int .u32 p.wa, .int .i64 p.wi, .int .i64 p.ot, .slice p.d.A p.d.n p.d.c, .slice p.g.A p.g.n p.g.c], .agg #[.int .i64 t.sp, .int .i64 t.dp, .int .u32 t.sq, .int .u32 t.ak, .int .i64 t.fl, .int .i64 t.wi, .int .i64 t.ur, .slice t.Ao t.no t.co, .slice t.Ab t.nb t.cb]] w (PtR2 w0 w (Value.slice p.g.A p.g.n p.g.c).ownBlock (Pb.sayC p.con 1)) := by
  obtain ⟨W, hW⟩ : ∃ W, W = (((w.alloc (.cells #[.int .i64 p.st, .int .i64 p.port, .int .i64 p.to, .int .u32 p.fi, .int .u32 p.un, .int .u32 p.ne, .int .u32 p.wa, .int .i64 p.wi, .int .i64 p.ot, .slice p.d.A p.d.n p.d.c, .slice p.g.A p.g.n p.g.c] 26)).alloc (.cells #[.int .i64 t.sp, .int .i64 t.dp, .int .u32 t.sq, .int .u32 t.ak, .int .i64 t.fl, .int .i64 t.wi, .int .i64 t.ur, .slice t.Ao t.no t.co, .slice t.Ab t.nb t.cb] 37)).alloc (.cells #[.int .i64 0, .int .i64 0, .int .i64 0, .int .u32 0, .int .u32 0, .int .u32 0, .int .u32 0, .int .i64 0, .int .i64 0, .slice none 0 0, .slice none 0 0] 26)).alloc (.cells #[.int .i64 0, .int .i64 0, .int .u32 0, .int .u32 0, .int .i64 0, .int .i64 0, .int .i64 0, .slice none 0 0, .slice none 0 0] 37) := ⟨_, rfl⟩
  have hbW : Below w.heap.size w W := (by rw [hW]; exact ((((Below.refl _ _).alloc (Nat.le_refl _) _).alloc (by simp) _).alloc (by simp; omega) _).alloc (by simp; omega) _)
  have hWs : W.heap.size = w.heap.size + 4 := (by rw [hW]; simp)
  have B0 : BlkV W w.heap.size 26 [.int .i64 p.st, .int .i64 p.port, .int .i64 p.to, .int .u32 p.fi, .int .u32 p.un, .int .u32 p.ne, .int .u32 p.wa, .int .i64 p.wi, .int .i64 p.ot, .slice p.d.A p.d.n p.d.c, .slice p.g.A p.g.n p.g.c] := (by rw [hW]; exact (((BlkV.new w _ _).alloc _).alloc _).alloc _)
  have B1 : BlkV W (w.heap.size + 1) 37 [.int .i64 t.sp, .int .i64 t.dp, .int .u32 t.sq, .int .u32 t.ak, .int .i64 t.fl, .int .i64 t.wi, .int .i64 t.ur, .slice t.Ao t.no t.co, .slice t.Ab t.nb t.cb] := (by rw [hW]; exact ((BlkV.new_at (w.alloc (.cells #[.int .i64 p.st, .int .i64 p.port, .int .i64 p.to, .int .u32 p.fi, .int .u32 p.un, .int .u32 p.ne, .int .u32 p.wa, .int .i64 p.wi, .int .i64 p.ot, .slice p.d.A p.d.n p.d.c, .slice p.g.A p.g.n p.g.c] 26)) _ _ (by simp)).alloc _).alloc _)
  have B2 : BlkV W (w.heap.size + 1 + 1) 26 [.int .i64 0, .int .i64 0, .int .i64 0, .int .u32 0, .int .u32 0, .int .u32 0, .int .u32 0, .int .i64 0, .int .i64 0, .slice none 0 0, .slice none 0 0] := (by rw [hW]; exact (BlkV.new_at ((w.alloc (.cells #[.int .i64 p.st, .int .i64 p.port, .int .i64 p.to, .int .u32 p.fi, .int .u32 p.un, .int .u32 p.ne, .int .u32 p.wa, .int .i64 p.wi, .int .i64 p.ot, .slice p.d.A p.d.n p.d.c, .slice p.g.A p.g.n p.g.c] 26)).alloc (.cells #[.int .i64 t.sp, .int .i64 t.dp, .int .u32 t.sq, .int .u32 t.ak, .int .i64 t.fl, .int .i64 t.wi, .int .i64 t.ur, .slice t.Ao t.no t.co, .slice t.Ab t.nb t.cb] 37)) _ _ (by simp)).alloc _)
  have B3 : BlkV W (w.heap.size + 1 + 1 + 1) 37 [.int .i64 0, .int .i64 0, .int .u32 0, .int .u32 0, .int .i64 0, .int .i64 0, .int .i64 0, .slice none 0 0, .slice none 0 0] := (by rw [hW]; exact (BlkV.new_at (((w.alloc (.cells #[.int .i64 p.st, .int .i64 p.port, .int .i64 p.to, .int .u32 p.fi, .int .u32 p.un, .int .u32 p.ne, .int .u32 p.wa, .int .i64 p.wi, .int .i64 p.ot, .slice p.d.A p.d.n p.d.c, .slice p.g.A p.g.n p.g.c] 26)).alloc (.cells #[.int .i64 t.sp, .int .i64 t.dp, .int .u32 t.sq, .int .u32 t.ak, .int .i64 t.fl, .int .i64 t.wi, .int .i64 t.ur, .slice t.Ao t.no t.co, .slice t.Ab t.nb t.cb] 37)).alloc (.cells #[.int .i64 0, .int .i64 0, .int .i64 0, .int .u32 0, .int .u32 0, .int .u32 0, .int .u32 0, .int .i64 0, .int .i64 0, .slice none 0 0, .slice none 0 0] 26)) _ _ (by simp)))
  have HC := Lib.hid (psay3_spec p 1 W h3)
  have HSP : Hid (Pb.sayC p.con 1 = (p.con, some ⟨p.port, p.to, p.fi, p.wa, 18, p.wi, []⟩)) := Lib.hid (by
    have e3 : p.con.st = 3 := h3
    unfold Pb.sayC
    rw [if_neg (by rw [e3]; decide), if_pos e3]
    rfl)
  have m4 := cellF B1 4 rfl
  have HP := Lib.hid (hp.below hbW)
  have HB := Lib.hid (hb0.trans (hbW.mono hb0.size))
  have hsw := hb0.size
  clear hb0 hp h3
  go_enter Try.func26, Try.ntmps26
  go_upto_region 1 with (fail)
  rw [← hW]
  clear hW
  go_wp2_with (refine wpList_ldB 26 _ _ (by with_reducible rfl) rfl (by rfl) (by assumption) Try.underlying26 rfl (peer_size (by rfl)) ?_)
  refine HC.out.mono ?_
  rintro e w2 ⟨hb2, A2, k2, rfl, hown2⟩
  have B2' := B2.below hb2
  have B3' := B3.below hb2
  have hs2 := hb2.size
  have HP2 := Lib.hid (HP.out.below hb2)
  have HB2 := Lib.hid (HB.out.trans (hb2.mono (show w0.heap.size ≤ W.heap.size by omega)))
  have HO := Lib.hid hown2
  clear B0 B1 B2 B3 hown2 HC m4
  go_wp2_with (first | (refine wpList_stB 26 _ _ (by with_reducible rfl) rfl (by rfl) _ (by rfl) (by assumption) (by rfl) (peer_size (by rfl)) (by rfl) ?_; intro wN BN hO) | (refine wpList_stB 37 _ _ (by with_reducible rfl) rfl (by rfl) _ (by rfl) (B3'.only hO (by omega)) (by rfl) (tcp_size (by rfl)) (by rfl) ?_; intro wM BM hM))
  have BN' := BN.only hM (by omega)
  obtain ⟨r0, r1, r2, r3, r4, r5, r6, r7, r8, r9, r10⟩ := cells11 BN'
  obtain ⟨t0, t1, t2, t3, t4, t5, t6, t7, t8⟩ := cells9 BM
  exact bodyPost_ret (v := .tuple #[.agg #[.int .i64 p.st, .int .i64 p.port, .int .i64 p.to, .int .u32 p.fi, .int .u32 p.un, .int .u32 p.ne, .int .u32 p.wa, .int .i64 p.wi, .int .i64 p.ot, .slice p.d.A p.d.n p.d.c, .slice p.g.A p.g.n p.g.c], .agg #[.int .i64 p.port, .int .i64 p.to, .int .u32 p.fi, .int .u32 p.wa, .int .i64 18, .int .i64 p.wi, .int .i64 0, .slice none 0 0, .slice A2 0 k2], .bool true]) (by simp [results, Try.results26, go_sem, r0, r1, r2, r3, r4, r5, r6, r7, r8, r9, r10, t0, t1, t2, t3, t4, t5, t6, t7, t8]) rfl ⟨ptR_tell (hM.bel (by omega) (hO.bel (by omega) HB2.out)) ((HP2.out.st B2' hO (by decide)).st (B3'.only hO (by omega)) hM (by decide)) (own_weak (own_only (own_only HO.out hO (by omega)) hM (by omega)) (by omega)) (by rw [HSP.out]) (by rw [HSP.out]), grown_none (hM.bel (by omega) (hO.bel (by omega) (bel_then hbW hb2)))⟩
def Peer.P.open_ (p : Peer.P) (t : Tcp.T) : Peer.P := ⟨4, p.port, p.to, p.fi, t.ak, p.ne, p.wa, p.wi, p.ot, p.d, p.g⟩
theorem ptR_any {p : Peer.P} {t : Tcp.T} {o : Pb.Pc × Option Pb.Tc} {b : Bool} {w0 w' : World} (hb : Below w0.heap.size w0 w') (hp : OwnP w' w0.heap.size p) (ht : OwnT w' w0.heap.size t) (e0 : b = o.2.isSome) (e1 : p.con = o.1) (e2 : t.con = o.2.getD Pb.zero) :
    PtR w0.heap.size o w0 (.returned (.tuple #[.agg #[.int .i64 p.st, .int .i64 p.port, .int .i64 p.to, .int .u32 p.fi, .int .u32 p.un, .int .u32 p.ne, .int .u32 p.wa, .int .i64 p.wi, .int .i64 p.ot, .slice p.d.A p.d.n p.d.c, .slice p.g.A p.g.n p.g.c], .agg #[.int .i64 t.sp, .int .i64 t.dp, .int .u32 t.sq, .int .u32 t.ak, .int .i64 t.fl, .int .i64 t.wi, .int .i64 t.ur, .slice t.Ao t.no t.co, .slice t.Ab t.nb t.cb], .bool b])) w' := by
  subst e0
  exact ⟨hb, p, t, rfl, hp, ht, e1, e2⟩
set_option maxHeartbeats 4000000 in
theorem phears_ack (p : Peer.P) (t : Tcp.T) (w0 w : World) (hb0 : Below w0.heap.size w0 w) (hp : OwnP w w0.heap.size p) (hx : apart (.slice p.d.A p.d.n p.d.c) (.slice p.g.A p.g.n p.g.c)) (hr : Rd w 1 t.Ab t.nb (bs t.body)) (hB : isB t.body) (hn : t.nb ≤ 65536) (hc : t.nb ≤ t.cb) (hf : (Go.bits .and .i64 t.fl 2 != 0) = false) (hf2 : (Go.bits .and .i64 t.fl 16 == 0) = false) (hak : (t.ak != Seq.step p.fi 1) = false) :
    Calls Try.prog 26 #[.agg #[.int .i64 p.st, .int .i64 p.port, .int .i64 p.to, .int .u32 p.fi, .int .u32 p.un, .int .u32 p.ne, .int .u32 p.wa, .int .i64 p.wi, .int .i64 p.ot, .slice p.d.A p.d.n p.d.c, .slice p.g.A p.g.n p.g.c], .agg #[.int .i64 t.sp, .int .i64 t.dp, .int .u32 t.sq, .int .u32 t.ak, .int .i64 t.fl, .int .i64 t.wi, .int .i64 t.ur, .slice t.Ao t.no t.co, .slice t.Ab t.nb t.cb]] w (PtR2 w0 w (Value.slice p.g.A p.g.n p.g.c).ownBlock (Pb.speakC (Pb.openC p.con t.con) t.con)) := by
  obtain ⟨W, hW⟩ : ∃ W, W = (((w.alloc (.cells #[.int .i64 p.st, .int .i64 p.port, .int .i64 p.to, .int .u32 p.fi, .int .u32 p.un, .int .u32 p.ne, .int .u32 p.wa, .int .i64 p.wi, .int .i64 p.ot, .slice p.d.A p.d.n p.d.c, .slice p.g.A p.g.n p.g.c] 26)).alloc (.cells #[.int .i64 t.sp, .int .i64 t.dp, .int .u32 t.sq, .int .u32 t.ak, .int .i64 t.fl, .int .i64 t.wi, .int .i64 t.ur, .slice t.Ao t.no t.co, .slice t.Ab t.nb t.cb] 37)).alloc (.cells #[.int .i64 0, .int .i64 0, .int .i64 0, .int .u32 0, .int .u32 0, .int .u32 0, .int .u32 0, .int .i64 0, .int .i64 0, .slice none 0 0, .slice none 0 0] 26)).alloc (.cells #[.int .i64 0, .int .i64 0, .int .u32 0, .int .u32 0, .int .i64 0, .int .i64 0, .int .i64 0, .slice none 0 0, .slice none 0 0] 37) := ⟨_, rfl⟩
  have hbW : Below w.heap.size w W := (by rw [hW]; exact ((((Below.refl _ _).alloc (Nat.le_refl _) _).alloc (by simp) _).alloc (by simp; omega) _).alloc (by simp; omega) _)
  have hWs : W.heap.size = w.heap.size + 4 := (by rw [hW]; simp)
  have B0 : BlkV W w.heap.size 26 [.int .i64 p.st, .int .i64 p.port, .int .i64 p.to, .int .u32 p.fi, .int .u32 p.un, .int .u32 p.ne, .int .u32 p.wa, .int .i64 p.wi, .int .i64 p.ot, .slice p.d.A p.d.n p.d.c, .slice p.g.A p.g.n p.g.c] := (by rw [hW]; exact (((BlkV.new w _ _).alloc _).alloc _).alloc _)
  have B1 : BlkV W (w.heap.size + 1) 37 [.int .i64 t.sp, .int .i64 t.dp, .int .u32 t.sq, .int .u32 t.ak, .int .i64 t.fl, .int .i64 t.wi, .int .i64 t.ur, .slice t.Ao t.no t.co, .slice t.Ab t.nb t.cb] := (by rw [hW]; exact ((BlkV.new_at (w.alloc (.cells #[.int .i64 p.st, .int .i64 p.port, .int .i64 p.to, .int .u32 p.fi, .int .u32 p.un, .int .u32 p.ne, .int .u32 p.wa, .int .i64 p.wi, .int .i64 p.ot, .slice p.d.A p.d.n p.d.c, .slice p.g.A p.g.n p.g.c] 26)) _ _ (by simp)).alloc _).alloc _)
  have B2 : BlkV W (w.heap.size + 1 + 1) 26 [.int .i64 0, .int .i64 0, .int .i64 0, .int .u32 0, .int .u32 0, .int .u32 0, .int .u32 0, .int .i64 0, .int .i64 0, .slice none 0 0, .slice none 0 0] := (by rw [hW]; exact (BlkV.new_at ((w.alloc (.cells #[.int .i64 p.st, .int .i64 p.port, .int .i64 p.to, .int .u32 p.fi, .int .u32 p.un, .int .u32 p.ne, .int .u32 p.wa, .int .i64 p.wi, .int .i64 p.ot, .slice p.d.A p.d.n p.d.c, .slice p.g.A p.g.n p.g.c] 26)).alloc (.cells #[.int .i64 t.sp, .int .i64 t.dp, .int .u32 t.sq, .int .u32 t.ak, .int .i64 t.fl, .int .i64 t.wi, .int .i64 t.ur, .slice t.Ao t.no t.co, .slice t.Ab t.nb t.cb] 37)) _ _ (by simp)).alloc _)
  have B3 : BlkV W (w.heap.size + 1 + 1 + 1) 37 [.int .i64 0, .int .i64 0, .int .u32 0, .int .u32 0, .int .i64 0, .int .i64 0, .int .i64 0, .slice none 0 0, .slice none 0 0] := (by rw [hW]; exact (BlkV.new_at (((w.alloc (.cells #[.int .i64 p.st, .int .i64 p.port, .int .i64 p.to, .int .u32 p.fi, .int .u32 p.un, .int .u32 p.ne, .int .u32 p.wa, .int .i64 p.wi, .int .i64 p.ot, .slice p.d.A p.d.n p.d.c, .slice p.g.A p.g.n p.g.c] 26)).alloc (.cells #[.int .i64 t.sp, .int .i64 t.dp, .int .u32 t.sq, .int .u32 t.ak, .int .i64 t.fl, .int .i64 t.wi, .int .i64 t.ur, .slice t.Ao t.no t.co, .slice t.Ab t.nb t.cb] 37)).alloc (.cells #[.int .i64 0, .int .i64 0, .int .i64 0, .int .u32 0, .int .u32 0, .int .u32 0, .int .u32 0, .int .i64 0, .int .i64 0, .slice none 0 0, .slice none 0 0] 26)) _ _ (by simp)))
  obtain ⟨m0, m1, m2, m3, m4, m5, m6, m7, m8⟩ := cells9 B1
  have c3 := cellF B0 3 rfl
  have HS : Hid (∀ q, Calls Try.prog 9 #[.int .u32 p.fi, .int .i64 1] (W.drewN q) fun e w' => e = .returned (.int .u32 (Seq.step p.fi 1)) ∧ ∃ m, w' = W.drewN m) := Lib.hid fun q => (seq_step p.fi 1 _).mono fun e w' ⟨h1, h2⟩ => ⟨h1, q, h2.symm⟩
  have HPQ := Lib.hid hp
  have HX := Lib.hid hx
  have HB0 := Lib.hid hb0
  have HRR := Lib.hid hr
  have HBB := Lib.hid hB
  clear hp hx hb0 hr hB
  go_enter Try.func26, Try.ntmps26
  go_upto_region 1 with (fail)
  rw [← hW]
  clear hW
  go_upto_region 3 with (fail)
  go_quiet (with_reducible exact HS.out _)
  obtain ⟨V, hV⟩ : ∃ V, V = W.drewN nq := ⟨_, rfl⟩
  have V0 : BlkV V w.heap.size 26 [.int .i64 p.st, .int .i64 p.port, .int .i64 p.to, .int .u32 p.fi, .int .u32 p.un, .int .u32 p.ne, .int .u32 p.wa, .int .i64 p.wi, .int .i64 p.ot, .slice p.d.A p.d.n p.d.c, .slice p.g.A p.g.n p.g.c] := by rw [hV]; exact B0
  have V1 : BlkV V (w.heap.size + 1) 37 [.int .i64 t.sp, .int .i64 t.dp, .int .u32 t.sq, .int .u32 t.ak, .int .i64 t.fl, .int .i64 t.wi, .int .i64 t.ur, .slice t.Ao t.no t.co, .slice t.Ab t.nb t.cb] := by rw [hV]; exact B1
  have V2 : BlkV V (w.heap.size + 1 + 1) 26 [.int .i64 0, .int .i64 0, .int .i64 0, .int .u32 0, .int .u32 0, .int .u32 0, .int .u32 0, .int .i64 0, .int .i64 0, .slice none 0 0, .slice none 0 0] := by rw [hV]; exact B2
  have V3 : BlkV V (w.heap.size + 1 + 1 + 1) 37 [.int .i64 0, .int .i64 0, .int .u32 0, .int .u32 0, .int .i64 0, .int .i64 0, .int .i64 0, .slice none 0 0, .slice none 0 0] := by rw [hV]; exact B3
  have hbV : Below w.heap.size w V := by rw [hV]; exact bel_n hbW _
  have hVs : V.heap.size = w.heap.size + 4 := by rw [hV]; exact hWs
  rw [← hV]
  clear hV B0 B1 B2 B3 hbW hWs HS c3 m0 m1 m2 m3 m4 m5 m6 m7 m8
  have KF : Hid (∀ w' : World, BlkV w' (w.heap.size + 1) 37 [.int .i64 t.sp, .int .i64 t.dp, .int .u32 t.sq, .int .u32 t.ak, .int .i64 t.fl, .int .i64 t.wi, .int .i64 t.ur, .slice t.Ao t.no t.co, .slice t.Ab t.nb t.cb] → w'.cell? ⟨w.heap.size + 1, 3, none⟩ = some (.int .u32 t.ak)) := Lib.hid fun w' h => h.cell rfl
  go_upto_region 5 with (fail)
  go_wp2_with fail
  refine wp_region_held_drew (S := fun w' => w'.cell? ⟨w.heap.size + 1, 3, none⟩ = some (.int .u32 t.ak)) (by kernel_rfl) (KF.out _ V1) (fun hHeld => ?_)
  refine wpAnyH_takeD (i := 0) (some 32) (v := ?_) rfl rfl (by kernel_rfl) (by kernel_rfl) (by kernel_rfl) (fun _ _ _ h => h) (Or.inl ⟨by rfl, ?_⟩) (by assumption) ?_
  rotate_left
  · (intro w hSw; (try dsimp only at hSw); go_simp; try with_reducible rfl)
  try simp only [Act.put, List.setIfInBounds_toArray, List.set_cons_zero, List.set_cons_succ]
  refine wpAnyH_takeD (i := 1) (some 33) (v := ?_) rfl rfl (by kernel_rfl) (by kernel_rfl) (by kernel_rfl) (fun _ _ _ h => h) (Or.inl ⟨by rfl, ?_⟩) (by assumption) ?_
  rotate_left
  · (intro w hSw; (try dsimp only at hSw); go_simp; try with_reducible rfl)
  try simp only [Act.put, List.setIfInBounds_toArray, List.set_cons_zero, List.set_cons_succ]
  refine wpAnyH_takeD (i := 2) (some 34) (v := ?_) rfl rfl (by kernel_rfl) (by kernel_rfl) (by kernel_rfl) (fun _ _ _ h => h) (Or.inl ⟨by rfl, ?_⟩) (by assumption) ?_
  rotate_left
  · (intro w hSw; (try dsimp only at hSw); go_simp; try with_reducible rfl)
  try simp only [Act.put, List.setIfInBounds_toArray, List.set_cons_zero, List.set_cons_succ]
  refine wpAnyH_ready (rs := [3]) (by kernel_rfl) (by simp) ?_
  refine AllReadyH.cons (o := _) rfl (fun K hK => ?_) AllReadyH.nil
  rw [if_pos (by rfl)]
  refine wp_stF 3 _ _ 0 (.int .i64 4) rfl (by rfl) (by rfl) (by rfl) (show BlkV V.drew _ _ _ from V0) (by simp) (by kernel_rfl) rfl ?_
  intro wa Ba ha
  have V1a := (show BlkV V.drew _ _ _ from V1).only ha (by omega)
  refine hK.out _ _ (KF.out _ V1a) (fun hHeld => ?_)
  clear hK K
  try simp only [Act.put, List.setIfInBounds_toArray, List.set_cons_zero, List.set_cons_succ]
  refine wpAnyH_takeD (i := 4) (some 35) (v := ?_) rfl rfl (by kernel_rfl) (by kernel_rfl) (by kernel_rfl) (fun _ _ _ h => h) (Or.inl ⟨by rfl, ?_⟩) (by assumption) ?_
  rotate_left
  · (intro w hSw; (try dsimp only at hSw); go_simp; try with_reducible rfl)
  try simp only [Act.put, List.setIfInBounds_toArray, List.set_cons_zero, List.set_cons_succ]
  refine wpAnyH_ready (rs := [5]) (by kernel_rfl) (by simp) ?_
  refine AllReadyH.cons (o := _) rfl (fun K hK => ?_) AllReadyH.nil
  rw [if_pos (by rfl)]
  refine wp_stF 22 _ _ 4 (.int .u32 t.ak) rfl (by rfl) (by rfl) (by rfl) Ba (by simp) (by kernel_rfl) rfl ?_
  intro wb Bb hb
  have V1b := V1a.only hb (by omega)
  refine hK.out _ _ (KF.out _ V1b) (fun hHeld => ?_)
  clear hK K
  try simp only [Act.put, List.setIfInBounds_toArray, List.set_cons_zero, List.set_cons_succ]
  refine wpAnyH_done (by kernel_rfl) ?_ _
  obtain ⟨p1, hp1⟩ : ∃ p1, p1 = p.open_ t := ⟨_, rfl⟩
  have B0 : BlkV wb w.heap.size 26 [.int .i64 p1.st, .int .i64 p1.port, .int .i64 p1.to, .int .u32 p1.fi, .int .u32 p1.un, .int .u32 p1.ne, .int .u32 p1.wa, .int .i64 p1.wi, .int .i64 p1.ot, .slice p1.d.A p1.d.n p1.d.c, .slice p1.g.A p1.g.n p1.g.c] := by rw [hp1]; exact BlkV.fit Bb rfl
  have B2 := ((show BlkV V.drew _ _ _ from V2).only ha (by omega)).only hb (by omega)
  have B3 := ((show BlkV V.drew _ _ _ from V3).only ha (by omega)).only hb (by omega)
  have hbb := hb.bel (by omega) (ha.bel (by omega) (bel_d hbV))
  have hsb : wb.heap.size = w.heap.size + 4 := by rw [hb.size, ha.size]; exact hVs
  have HSPK := Lib.hid (pspeak_spec p1 t w0 wb (HB0.out.trans (hbb.mono HB0.out.size)) (own_eq (HPQ.out.below hbb) (by rw [hp1]; rfl) (by rw [hp1]; rfl)) (by rw [hp1]; exact HX.out) (HRR.out.below hbb) HBB.out hn hc (.inr (by simpa [Pb.fl_, Tcp.T.con] using hf2)))
  have HCO : Hid (p1.con = Pb.openC p.con t.con) := Lib.hid (by rw [hp1]; rfl)
  rw [HCO.out] at HSPK
  have HROW : Hid ((Value.slice p1.g.A p1.g.n p1.g.c).ownBlock = (Value.slice p.g.A p.g.n p.g.c).ownBlock) := Lib.hid (by rw [hp1]; rfl)
  have HLT : Hid (∀ g, (Value.slice p1.g.A p1.g.n p1.g.c).ownBlock = some g → g < w.heap.size) := Lib.hid fun g hg => (HPQ.out.g.own.lt g (by rw [hp1] at hg; exact hg)).2
  clear hp1 V0 V1 V2 V3 V1a Ba Bb ha hb KF hHeld hbV hVs
  have B1 := V1b
  clear V1b
  go_wp2_with (first | (refine wpList_ldB 26 _ _ (by with_reducible rfl) rfl (by rfl) (by assumption) Try.underlying26 rfl (peer_size (by rfl)) ?_) | (refine wpList_ldB 37 _ _ (by with_reducible rfl) rfl (by rfl) (by assumption) Try.underlying37 rfl (tcp_size (by rfl)) ?_))
  refine HSPK.out.mono ?_
  rintro e w5 ⟨⟨hb5, p3, t5, rfl, hp3, ht5, hc3, hc5⟩, hg5⟩
  have B2g := B2.grown hg5 (fun h => absurd (HLT.out _ h) (by omega))
  have B3g := B3.grown hg5 (fun h => absurd (HLT.out _ h) (by omega))
  have hs5 := hg5.size
  have HG5 := Lib.hid (bel_grown hbb (HROW.out ▸ hg5))
  have HP3 := Lib.hid hp3
  have HT5 := Lib.hid ht5
  have HC3 := Lib.hid hc3
  have HC5 := Lib.hid hc5
  have hsw := HB0.out.size
  obtain ⟨ob, hob⟩ : ∃ b, b = (Pb.speakC (Pb.openC p.con t.con) t.con).2.isSome := ⟨_, rfl⟩
  have HOB := Lib.hid hob
  rw [← hob]
  clear B0 B1 B2 B3 hp3 ht5 hc3 hc5 hg5 hob HSPK HLT
  go_wp2_with (first | (refine wpList_stB 26 _ _ (by with_reducible rfl) rfl (by rfl) _ (by rfl) (by assumption) (by rfl) (peer_size (by rfl)) (by rfl) ?_; intro wN BN hO) | (refine wpList_stB 37 _ _ (by with_reducible rfl) rfl (by rfl) _ (by rfl) (B3g.only hO (by omega)) (by rfl) (tcp_size (by rfl)) (by rfl) ?_; intro wM BM hM))
  have BN' := BN.only hM (by omega)
  obtain ⟨r0, r1, r2, r3, r4, r5, r6, r7, r8, r9, r10⟩ := cells11 BN'
  obtain ⟨t0, t1, t2, t3, t4, tt5, t6, t7, t8⟩ := cells9 BM
  exact bodyPost_ret (v := .tuple #[.agg #[.int .i64 p3.st, .int .i64 p3.port, .int .i64 p3.to, .int .u32 p3.fi, .int .u32 p3.un, .int .u32 p3.ne, .int .u32 p3.wa, .int .i64 p3.wi, .int .i64 p3.ot, .slice p3.d.A p3.d.n p3.d.c, .slice p3.g.A p3.g.n p3.g.c], .agg #[.int .i64 t5.sp, .int .i64 t5.dp, .int .u32 t5.sq, .int .u32 t5.ak, .int .i64 t5.fl, .int .i64 t5.wi, .int .i64 t5.ur, .slice t5.Ao t5.no t5.co, .slice t5.Ab t5.nb t5.cb], .bool ob]) (by simp [results, Try.results26, go_sem, r0, r1, r2, r3, r4, r5, r6, r7, r8, r9, r10, t0, t1, t2, t3, t4, tt5, t6, t7, t8]) rfl ⟨ptR_any (hM.bel (by omega) (hO.bel (by omega) hb5)) ((HP3.out.st B2g hO (by decide)).st (B3g.only hO (by omega)) hM (by decide)) ((OwnS.st HT5.out B2g hO (by decide)).st (B3g.only hO (by omega)) hM (by decide)) HOB.out HC3.out HC5.out, grown_only (grown_only HG5.out hO (by omega)) hM (by omega)⟩
end Go.Proofs.Ytihhcalgjkkalaa
