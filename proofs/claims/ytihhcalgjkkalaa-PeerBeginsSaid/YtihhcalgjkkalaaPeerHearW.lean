/- The walk of peer.Hear, where something is heard by one who waits, or asks; or by one who is idle. -/
import Derived.Test.YtihhcalgjkkalaaPeerDeafW
namespace Go.Proofs.Ytihhcalgjkkalaa
open Go.RowKit
set_option linter.unusedVariables false
set_option linter.unusedSimpArgs false
set_option maxHeartbeats 16000000 in
theorem phear_idle (p : Peer.P) (t : Tcp.T) (w : World) (hp : p.ok w) (hd : p.d.n ≤ 140737488355328) (hg : p.g.n ≤ 140737488355328) (x y z : Bool) (hx : (t.dp == p.port) = x) (hy : (p.st == 1) = false) (hz : (t.sp == p.to) = z) (h2 : (p.st == 2) = false) (h3 : (p.st == 3) = false) (h4 : (p.st == 4) = false) (hm : x = true ∧ z = true)
    (hr : Peer.right p = true) (hf : (Go.bits .and .i64 t.fl 4 != 0) = false) (hws : Peer.within t.sp 0 65535 = true) (hww : Peer.within t.wi 0 65535 = true) :
    Calls Try.prog 14 #[.agg #[.int .i64 p.st, .int .i64 p.port, .int .i64 p.to, .int .u32 p.fi, .int .u32 p.un, .int .u32 p.ne, .int .u32 p.wa, .int .i64 p.wi, .int .i64 p.ot, .slice p.d.A p.d.n p.d.c, .slice p.g.A p.g.n p.g.c], .agg #[.int .i64 t.sp, .int .i64 t.dp, .int .u32 t.sq, .int .u32 t.ak, .int .i64 t.fl, .int .i64 t.wi, .int .i64 t.ur, .slice t.Ao t.no t.co, .slice t.Ab t.nb t.cb]] w (RefR p w) := by
  obtain ⟨W, hW⟩ : ∃ W, W = (((w.alloc (.cells #[.int .i64 p.st, .int .i64 p.port, .int .i64 p.to, .int .u32 p.fi, .int .u32 p.un, .int .u32 p.ne, .int .u32 p.wa, .int .i64 p.wi, .int .i64 p.ot, .slice p.d.A p.d.n p.d.c, .slice p.g.A p.g.n p.g.c] 26)).alloc (.cells #[.int .i64 t.sp, .int .i64 t.dp, .int .u32 t.sq, .int .u32 t.ak, .int .i64 t.fl, .int .i64 t.wi, .int .i64 t.ur, .slice t.Ao t.no t.co, .slice t.Ab t.nb t.cb] 37)).alloc (.cells #[.int .i64 0, .int .i64 0, .int .i64 0, .int .u32 0, .int .u32 0, .int .u32 0, .int .u32 0, .int .i64 0, .int .i64 0, .slice none 0 0, .slice none 0 0] 26)).alloc (.cells #[.int .i64 0, .int .i64 0, .int .u32 0, .int .u32 0, .int .i64 0, .int .i64 0, .int .i64 0, .slice none 0 0, .slice none 0 0] 37) := ⟨_, rfl⟩
  have hbW : Below w.heap.size w W := (by rw [hW]; exact ((((Below.refl _ _).alloc (Nat.le_refl _) _).alloc (by simp) _).alloc (by simp; omega) _).alloc (by simp; omega) _)
  have hWs : W.heap.size = w.heap.size + 4 := (by rw [hW]; simp)
  have B0 : BlkV W w.heap.size 26 [.int .i64 p.st, .int .i64 p.port, .int .i64 p.to, .int .u32 p.fi, .int .u32 p.un, .int .u32 p.ne, .int .u32 p.wa, .int .i64 p.wi, .int .i64 p.ot, .slice p.d.A p.d.n p.d.c, .slice p.g.A p.g.n p.g.c] := (by rw [hW]; exact (((BlkV.new w _ _).alloc _).alloc _).alloc _)
  have B1 : BlkV W (w.heap.size + 1) 37 [.int .i64 t.sp, .int .i64 t.dp, .int .u32 t.sq, .int .u32 t.ak, .int .i64 t.fl, .int .i64 t.wi, .int .i64 t.ur, .slice t.Ao t.no t.co, .slice t.Ab t.nb t.cb] := (by rw [hW]; exact ((BlkV.new_at (w.alloc (.cells #[.int .i64 p.st, .int .i64 p.port, .int .i64 p.to, .int .u32 p.fi, .int .u32 p.un, .int .u32 p.ne, .int .u32 p.wa, .int .i64 p.wi, .int .i64 p.ot, .slice p.d.A p.d.n p.d.c, .slice p.g.A p.g.n p.g.c] 26)) _ _ (by simp)).alloc _).alloc _)
  have B2 : BlkV W (w.heap.size + 1 + 1) 26 [.int .i64 0, .int .i64 0, .int .i64 0, .int .u32 0, .int .u32 0, .int .u32 0, .int .u32 0, .int .i64 0, .int .i64 0, .slice none 0 0, .slice none 0 0] := (by rw [hW]; exact (BlkV.new_at ((w.alloc (.cells #[.int .i64 p.st, .int .i64 p.port, .int .i64 p.to, .int .u32 p.fi, .int .u32 p.un, .int .u32 p.ne, .int .u32 p.wa, .int .i64 p.wi, .int .i64 p.ot, .slice p.d.A p.d.n p.d.c, .slice p.g.A p.g.n p.g.c] 26)).alloc (.cells #[.int .i64 t.sp, .int .i64 t.dp, .int .u32 t.sq, .int .u32 t.ak, .int .i64 t.fl, .int .i64 t.wi, .int .i64 t.ur, .slice t.Ao t.no t.co, .slice t.Ab t.nb t.cb] 37)) _ _ (by simp)).alloc _)
  have B3 : BlkV W (w.heap.size + 1 + 1 + 1) 37 [.int .i64 0, .int .i64 0, .int .u32 0, .int .u32 0, .int .i64 0, .int .i64 0, .int .i64 0, .slice none 0 0, .slice none 0 0] := (by rw [hW]; exact (BlkV.new_at (((w.alloc (.cells #[.int .i64 p.st, .int .i64 p.port, .int .i64 p.to, .int .u32 p.fi, .int .u32 p.un, .int .u32 p.ne, .int .u32 p.wa, .int .i64 p.wi, .int .i64 p.ot, .slice p.d.A p.d.n p.d.c, .slice p.g.A p.g.n p.g.c] 26)).alloc (.cells #[.int .i64 t.sp, .int .i64 t.dp, .int .u32 t.sq, .int .u32 t.ak, .int .i64 t.fl, .int .i64 t.wi, .int .i64 t.ur, .slice t.Ao t.no t.co, .slice t.Ab t.nb t.cb] 37)).alloc (.cells #[.int .i64 0, .int .i64 0, .int .i64 0, .int .u32 0, .int .u32 0, .int .u32 0, .int .u32 0, .int .i64 0, .int .i64 0, .slice none 0 0, .slice none 0 0] 26)) _ _ (by simp)))
  have HC := Lib.hid (pcopied_spec p W (hp.below hbW) hd hg)
  have hdn : p.d.n ≤ 9223372036854775806 := by omega
  have HW1 := Lib.hid (pwithin_spec t.sp 0 65535)
  have HW2 := Lib.hid (pwithin_spec t.wi 0 65535)
  rw [hws] at HW1
  rw [hww] at HW2
  have HRT := Lib.hid hr
  clear hws hww hr hp hd hg
  obtain ⟨rfl, rfl⟩ := hm
  all_goals
    go_enter Try.func14, Try.ntmps14
    go_upto_region 1 with (fail)
    rw [← hW]
    clear hW
    go_wp2_with (refine wpList_ldB 26 _ _ (by with_reducible rfl) rfl (by rfl) (by assumption) Try.underlying26 rfl (peer_size (by rfl)) ?_)
    refine HC.out.mono ?_
    rintro e w1 ⟨hb1, A, c, B, k, rfl, oA, oB⟩
    have B0' := B0.below hb1
    have B1' := B1.below hb1
    have B2' := B2.below hb1
    have B3' := B3.below hb1
    have HR := Lib.hid (fun w => pright_spec (p.with_ A c B k) w hdn)
    rw [Peer.right_with, HRT.out] at HR
    have OA := Lib.hid oA
    have OB := Lib.hid oB
    clear B0 B1 B2 B3 HC oA oB
    go_upto_region 2 with (first | (refine wpList_stB 26 _ _ (by with_reducible rfl) rfl (by rfl) [.int .i64 p.st, .int .i64 p.port, .int .i64 p.to, .int .u32 p.fi, .int .u32 p.un, .int .u32 p.ne, .int .u32 p.wa, .int .i64 p.wi, .int .i64 p.ot, .slice A p.d.n c, .slice B p.g.n k] (by rfl) (by assumption) (by rfl) (peer_size (by rfl)) (by rfl) ?_; intro wN BN hO; have B1n := B1'.only hO (by omega); obtain ⟨c0, c1, c2, c3, c4, c5, c6, c7, c8, c9, c10⟩ := cells11 BN; obtain ⟨m0, m1, m2, m3, m4, m5, m6, m7, m8⟩ := cells9 B1n))
    go_upto_region 3 with (fail)
    go_wp2_with (refine wpList_ldB 26 _ _ (by with_reducible rfl) rfl (by rfl) (by assumption) Try.underlying26 rfl (peer_size (by rfl)) ?_)
    refine (HR.out wN).mono ?_
    rintro e w3 ⟨rfl, hb3⟩
    have B0 := BN.below hb3
    have B1 := B1n.below hb3
    have B2 := (B2'.only hO (by omega)).below hb3
    have B3 := (B3'.only hO (by omega)).below hb3
    have hbN := bel_then (hO.bel (by omega) (bel_then hbW hb1)) hb3
    have OA3 := Lib.hid (own_below (own_only OA.out hO (by omega)) hb3)
    have OB3 := Lib.hid (own_below (own_only OB.out hO (by omega)) hb3)
    have hs3 : W.heap.size ≤ w3.heap.size := Nat.le_trans hb1.size (Nat.le_trans (Nat.le_of_eq hO.size.symm) hb3.size)
    clear BN B1n B0' B1' B2' B3' OA OB HR hO hb1 hb3 c0 c1 c2 c3 c4 c5 c6 c7 c8 c9 c10 m0 m1 m2 m3 m4 m5 m6 m7 m8
    obtain ⟨m0, m1, m2, m3, m4, m5, m6, m7, m8⟩ := cells9 B1
    have c0 := cellF B0 0 rfl
    go_wp2_with (first | (refine wpList_ldB 26 _ _ (by with_reducible rfl) rfl (by rfl) (by assumption) Try.underlying26 rfl (peer_size (by rfl)) ?_) | (refine wpList_stB 26 _ _ (by with_reducible rfl) rfl (by rfl) _ (by rfl) (by assumption) (by rfl) (peer_size (by rfl)) (by rfl) ?_; intro wN BN hO) | (refine wpList_stB 37 _ _ (by with_reducible rfl) rfl (by rfl) _ (by rfl) (B3.only hO (by omega)) (by rfl) (tcp_size (by rfl)) (by rfl) ?_; intro wM BM hM) | ((with_reducible first | refine (HW1.out _).mono ?_ | refine (HW2.out _).mono ?_); rintro e w' ⟨rfl, rfl⟩))
    have BN' := BN.only hM (by omega)
    obtain ⟨r0, r1, r2, r3, r4, r5, r6, r7, r8, r9, r10⟩ := cells11 BN'
    obtain ⟨t0, t1, t2, t3, t4, t5, t6, t7, t8⟩ := cells9 BM
    clear BN BM BN' B0 B1 B2 B3
    exact bodyPost_ret (v := .tuple #[.agg #[.int .i64 p.st, .int .i64 p.port, .int .i64 p.to, .int .u32 p.fi, .int .u32 p.un, .int .u32 p.ne, .int .u32 p.wa, .int .i64 p.wi, .int .i64 p.ot, .slice A p.d.n c, .slice B p.g.n k], .agg #[.int .i64 0, .int .i64 0, .int .u32 0, .int .u32 0, .int .i64 0, .int .i64 0, .int .i64 0, .slice none 0 0, .slice none 0 0], .bool false]) (by simp [results, Try.results14, go_sem, r0, r1, r2, r3, r4, r5, r6, r7, r8, r9, r10, t0, t1, t2, t3, t4, t5, t6, t7, t8]) rfl ⟨hM.bel (by omega) (hO.bel (by omega) hbN), A, c, B, k, rfl, own_weak (own_only (own_only OA3.out hO (by omega)) hM (by omega)) (by omega), own_weak (own_only (own_only OB3.out hO (by omega)) hM (by omega)) (by omega)⟩
set_option maxHeartbeats 16000000 in
theorem phear_waits (p : Peer.P) (t : Tcp.T) (w : World) (hp : p.ok w) (hd : p.d.n ≤ 140737488355328) (hg : p.g.n ≤ 140737488355328) (hx : (t.dp == p.port) = true) (hy : (p.st == 1) = true) (hfl : Hid (Go.bits .and .i64 t.fl 18 = 2))
    (hr : Peer.right p = true) (hf : (Go.bits .and .i64 t.fl 4 != 0) = false) (hws : Peer.within t.sp 0 65535 = true) (hww : Peer.within t.wi 0 65535 = true) :
    Calls Try.prog 14 #[.agg #[.int .i64 p.st, .int .i64 p.port, .int .i64 p.to, .int .u32 p.fi, .int .u32 p.un, .int .u32 p.ne, .int .u32 p.wa, .int .i64 p.wi, .int .i64 p.ot, .slice p.d.A p.d.n p.d.c, .slice p.g.A p.g.n p.g.c], .agg #[.int .i64 t.sp, .int .i64 t.dp, .int .u32 t.sq, .int .u32 t.ak, .int .i64 t.fl, .int .i64 t.wi, .int .i64 t.ur, .slice t.Ao t.no t.co, .slice t.Ab t.nb t.cb]] w (SayC (Peer.heard p t) 18 p.fi (Seq.step t.sq 1) w) := by
  obtain ⟨W, hW⟩ : ∃ W, W = (((w.alloc (.cells #[.int .i64 p.st, .int .i64 p.port, .int .i64 p.to, .int .u32 p.fi, .int .u32 p.un, .int .u32 p.ne, .int .u32 p.wa, .int .i64 p.wi, .int .i64 p.ot, .slice p.d.A p.d.n p.d.c, .slice p.g.A p.g.n p.g.c] 26)).alloc (.cells #[.int .i64 t.sp, .int .i64 t.dp, .int .u32 t.sq, .int .u32 t.ak, .int .i64 t.fl, .int .i64 t.wi, .int .i64 t.ur, .slice t.Ao t.no t.co, .slice t.Ab t.nb t.cb] 37)).alloc (.cells #[.int .i64 0, .int .i64 0, .int .i64 0, .int .u32 0, .int .u32 0, .int .u32 0, .int .u32 0, .int .i64 0, .int .i64 0, .slice none 0 0, .slice none 0 0] 26)).alloc (.cells #[.int .i64 0, .int .i64 0, .int .u32 0, .int .u32 0, .int .i64 0, .int .i64 0, .int .i64 0, .slice none 0 0, .slice none 0 0] 37) := ⟨_, rfl⟩
  have hbW : Below w.heap.size w W := (by rw [hW]; exact ((((Below.refl _ _).alloc (Nat.le_refl _) _).alloc (by simp) _).alloc (by simp; omega) _).alloc (by simp; omega) _)
  have hWs : W.heap.size = w.heap.size + 4 := (by rw [hW]; simp)
  have B0 : BlkV W w.heap.size 26 [.int .i64 p.st, .int .i64 p.port, .int .i64 p.to, .int .u32 p.fi, .int .u32 p.un, .int .u32 p.ne, .int .u32 p.wa, .int .i64 p.wi, .int .i64 p.ot, .slice p.d.A p.d.n p.d.c, .slice p.g.A p.g.n p.g.c] := (by rw [hW]; exact (((BlkV.new w _ _).alloc _).alloc _).alloc _)
  have B1 : BlkV W (w.heap.size + 1) 37 [.int .i64 t.sp, .int .i64 t.dp, .int .u32 t.sq, .int .u32 t.ak, .int .i64 t.fl, .int .i64 t.wi, .int .i64 t.ur, .slice t.Ao t.no t.co, .slice t.Ab t.nb t.cb] := (by rw [hW]; exact ((BlkV.new_at (w.alloc (.cells #[.int .i64 p.st, .int .i64 p.port, .int .i64 p.to, .int .u32 p.fi, .int .u32 p.un, .int .u32 p.ne, .int .u32 p.wa, .int .i64 p.wi, .int .i64 p.ot, .slice p.d.A p.d.n p.d.c, .slice p.g.A p.g.n p.g.c] 26)) _ _ (by simp)).alloc _).alloc _)
  have B2 : BlkV W (w.heap.size + 1 + 1) 26 [.int .i64 0, .int .i64 0, .int .i64 0, .int .u32 0, .int .u32 0, .int .u32 0, .int .u32 0, .int .i64 0, .int .i64 0, .slice none 0 0, .slice none 0 0] := (by rw [hW]; exact (BlkV.new_at ((w.alloc (.cells #[.int .i64 p.st, .int .i64 p.port, .int .i64 p.to, .int .u32 p.fi, .int .u32 p.un, .int .u32 p.ne, .int .u32 p.wa, .int .i64 p.wi, .int .i64 p.ot, .slice p.d.A p.d.n p.d.c, .slice p.g.A p.g.n p.g.c] 26)).alloc (.cells #[.int .i64 t.sp, .int .i64 t.dp, .int .u32 t.sq, .int .u32 t.ak, .int .i64 t.fl, .int .i64 t.wi, .int .i64 t.ur, .slice t.Ao t.no t.co, .slice t.Ab t.nb t.cb] 37)) _ _ (by simp)).alloc _)
  have B3 : BlkV W (w.heap.size + 1 + 1 + 1) 37 [.int .i64 0, .int .i64 0, .int .u32 0, .int .u32 0, .int .i64 0, .int .i64 0, .int .i64 0, .slice none 0 0, .slice none 0 0] := (by rw [hW]; exact (BlkV.new_at (((w.alloc (.cells #[.int .i64 p.st, .int .i64 p.port, .int .i64 p.to, .int .u32 p.fi, .int .u32 p.un, .int .u32 p.ne, .int .u32 p.wa, .int .i64 p.wi, .int .i64 p.ot, .slice p.d.A p.d.n p.d.c, .slice p.g.A p.g.n p.g.c] 26)).alloc (.cells #[.int .i64 t.sp, .int .i64 t.dp, .int .u32 t.sq, .int .u32 t.ak, .int .i64 t.fl, .int .i64 t.wi, .int .i64 t.ur, .slice t.Ao t.no t.co, .slice t.Ab t.nb t.cb] 37)).alloc (.cells #[.int .i64 0, .int .i64 0, .int .i64 0, .int .u32 0, .int .u32 0, .int .u32 0, .int .u32 0, .int .i64 0, .int .i64 0, .slice none 0 0, .slice none 0 0] 26)) _ _ (by simp)))
  have HC := Lib.hid (pcopied_spec p W (hp.below hbW) hd hg)
  have hdn : p.d.n ≤ 9223372036854775806 := by omega
  have HW1 := Lib.hid (pwithin_spec t.sp 0 65535)
  have HW2 := Lib.hid (pwithin_spec t.wi 0 65535)
  rw [hws] at HW1
  rw [hww] at HW2
  have HRT := Lib.hid hr
  clear hws hww hr hp hd hg
  all_goals
    go_enter Try.func14, Try.ntmps14
    go_upto_region 1 with (fail)
    rw [← hW]
    clear hW
    go_wp2_with (refine wpList_ldB 26 _ _ (by with_reducible rfl) rfl (by rfl) (by assumption) Try.underlying26 rfl (peer_size (by rfl)) ?_)
    refine HC.out.mono ?_
    rintro e w1 ⟨hb1, A, c, B, k, rfl, oA, oB⟩
    have B0' := B0.below hb1
    have B1' := B1.below hb1
    have B2' := B2.below hb1
    have B3' := B3.below hb1
    have HR := Lib.hid (fun w => pright_spec (p.with_ A c B k) w hdn)
    rw [Peer.right_with, HRT.out] at HR
    have OA := Lib.hid oA
    have OB := Lib.hid oB
    clear B0 B1 B2 B3 HC oA oB
    go_upto_region 2 with (first | (refine wpList_stB 26 _ _ (by with_reducible rfl) rfl (by rfl) [.int .i64 p.st, .int .i64 p.port, .int .i64 p.to, .int .u32 p.fi, .int .u32 p.un, .int .u32 p.ne, .int .u32 p.wa, .int .i64 p.wi, .int .i64 p.ot, .slice A p.d.n c, .slice B p.g.n k] (by rfl) (by assumption) (by rfl) (peer_size (by rfl)) (by rfl) ?_; intro wN BN hO; have B1n := B1'.only hO (by omega); obtain ⟨c0, c1, c2, c3, c4, c5, c6, c7, c8, c9, c10⟩ := cells11 BN; obtain ⟨m0, m1, m2, m3, m4, m5, m6, m7, m8⟩ := cells9 B1n))
    go_upto_region 3 with (fail)
    go_wp2_with (refine wpList_ldB 26 _ _ (by with_reducible rfl) rfl (by rfl) (by assumption) Try.underlying26 rfl (peer_size (by rfl)) ?_)
    refine (HR.out wN).mono ?_
    rintro e w3 ⟨rfl, hb3⟩
    have B0 := BN.below hb3
    have B1 := B1n.below hb3
    have B2 := (B2'.only hO (by omega)).below hb3
    have B3 := (B3'.only hO (by omega)).below hb3
    have hbN := bel_then (hO.bel (by omega) (bel_then hbW hb1)) hb3
    have OA3 := Lib.hid (own_below (own_only OA.out hO (by omega)) hb3)
    have OB3 := Lib.hid (own_below (own_only OB.out hO (by omega)) hb3)
    have hs3 : W.heap.size ≤ w3.heap.size := Nat.le_trans hb1.size (Nat.le_trans (Nat.le_of_eq hO.size.symm) hb3.size)
    clear BN B1n B0' B1' B2' B3' OA OB HR hO hb1 hb3 c0 c1 c2 c3 c4 c5 c6 c7 c8 c9 c10 m0 m1 m2 m3 m4 m5 m6 m7 m8
    obtain ⟨m0, m1, m2, m3, m4, m5, m6, m7, m8⟩ := cells9 B1
    have c0 := cellF B0 0 rfl
    have HQ := Lib.hid (fun w => pwaits_spec (p.with_ A c B k) t w hfl.out)
    go_wp2_with (first | (refine wpList_ldB 26 _ _ (by with_reducible rfl) rfl (by rfl) (by assumption) Try.underlying26 rfl (peer_size (by rfl)) ?_) | (refine wpList_ldB 37 _ _ (by with_reducible rfl) rfl (by rfl) (by assumption) Try.underlying37 rfl (tcp_size (by rfl)) ?_) | ((with_reducible first | refine (HW1.out _).mono ?_ | refine (HW2.out _).mono ?_); rintro e w' ⟨rfl, rfl⟩))
    refine (HQ.out w3).mono ?_
    rintro e w5 ⟨hb5, A2, k2, rfl, hown⟩
    have B2' := B2.below hb5
    have B3' := B3.below hb5
    have HO := Lib.hid hown
    have hs5 := hb5.size
    have OA5 := Lib.hid (own_below OA3.out hb5)
    have OB5 := Lib.hid (own_below OB3.out hb5)
    clear B0 B1 B2 B3 hown HQ OA3 OB3 m0 m1 m2 m3 m4 m5 m6 m7 m8 c0
    simp only [Peer.heard, Peer.speaks, Peer.P.with_]
    go_wp2_with (first | (refine wpList_stB 26 _ _ (by with_reducible rfl) rfl (by rfl) _ (by rfl) (by assumption) (by rfl) (peer_size (by rfl)) (by rfl) ?_; intro wN BN hO) | (refine wpList_stB 37 _ _ (by with_reducible rfl) rfl (by rfl) _ (by rfl) (B3'.only hO (by omega)) (by rfl) (tcp_size (by rfl)) (by rfl) ?_; intro wM BM hM))
    have BN' := BN.only hM (by omega)
    obtain ⟨r0, r1, r2, r3, r4, r5, r6, r7, r8, r9, r10⟩ := cells11 BN'
    obtain ⟨t0, t1, t2, t3, t4, t5, t6, t7, t8⟩ := cells9 BM
    clear BN BM BN' B2' B3'
    exact bodyPost_ret (v := .tuple #[.agg #[.int .i64 3, .int .i64 p.port, .int .i64 t.sp, .int .u32 p.fi, .int .u32 p.fi, .int .u32 (Seq.step p.fi 1), .int .u32 (Seq.step t.sq 1), .int .i64 p.wi, .int .i64 t.wi, .slice A p.d.n c, .slice B p.g.n k], .agg #[.int .i64 p.port, .int .i64 t.sp, .int .u32 p.fi, .int .u32 (Seq.step t.sq 1), .int .i64 18, .int .i64 p.wi, .int .i64 0, .slice none 0 0, .slice A2 0 k2], .bool true]) (by simp [results, Try.results14, go_sem, Peer.heard, Peer.speaks, Peer.P.with_, r0, r1, r2, r3, r4, r5, r6, r7, r8, r9, r10, t0, t1, t2, t3, t4, t5, t6, t7, t8]) rfl ⟨hM.bel (by omega) (hO.bel (by omega) (bel_then hbN hb5)), A, c, B, k, A2, k2, rfl, own_weak (own_only (own_only OA5.out hO (by omega)) hM (by omega)) (by omega), own_weak (own_only (own_only OB5.out hO (by omega)) hM (by omega)) (by omega), own_weak (own_only (own_only HO.out hO (by omega)) hM (by omega)) (by omega)⟩
set_option maxHeartbeats 16000000 in
theorem phear_asks (p : Peer.P) (t : Tcp.T) (w : World) (hp : p.ok w) (hd : p.d.n ≤ 140737488355328) (hg : p.g.n ≤ 140737488355328) (hx : (t.dp == p.port) = true) (hy : (p.st == 1) = false) (hz : (t.sp == p.to) = true) (h2 : (p.st == 2) = true) (hfl : Hid (Go.bits .and .i64 t.fl 18 = 18)) (hak : Hid (t.ak = Seq.step p.fi 1))
    (hr : Peer.right p = true) (hf : (Go.bits .and .i64 t.fl 4 != 0) = false) (hws : Peer.within t.sp 0 65535 = true) (hww : Peer.within t.wi 0 65535 = true) :
    Calls Try.prog 14 #[.agg #[.int .i64 p.st, .int .i64 p.port, .int .i64 p.to, .int .u32 p.fi, .int .u32 p.un, .int .u32 p.ne, .int .u32 p.wa, .int .i64 p.wi, .int .i64 p.ot, .slice p.d.A p.d.n p.d.c, .slice p.g.A p.g.n p.g.c], .agg #[.int .i64 t.sp, .int .i64 t.dp, .int .u32 t.sq, .int .u32 t.ak, .int .i64 t.fl, .int .i64 t.wi, .int .i64 t.ur, .slice t.Ao t.no t.co, .slice t.Ab t.nb t.cb]] w (SayC (Peer.speaks p t) 16 t.ak (Seq.step t.sq 1) w) := by
  obtain ⟨W, hW⟩ : ∃ W, W = (((w.alloc (.cells #[.int .i64 p.st, .int .i64 p.port, .int .i64 p.to, .int .u32 p.fi, .int .u32 p.un, .int .u32 p.ne, .int .u32 p.wa, .int .i64 p.wi, .int .i64 p.ot, .slice p.d.A p.d.n p.d.c, .slice p.g.A p.g.n p.g.c] 26)).alloc (.cells #[.int .i64 t.sp, .int .i64 t.dp, .int .u32 t.sq, .int .u32 t.ak, .int .i64 t.fl, .int .i64 t.wi, .int .i64 t.ur, .slice t.Ao t.no t.co, .slice t.Ab t.nb t.cb] 37)).alloc (.cells #[.int .i64 0, .int .i64 0, .int .i64 0, .int .u32 0, .int .u32 0, .int .u32 0, .int .u32 0, .int .i64 0, .int .i64 0, .slice none 0 0, .slice none 0 0] 26)).alloc (.cells #[.int .i64 0, .int .i64 0, .int .u32 0, .int .u32 0, .int .i64 0, .int .i64 0, .int .i64 0, .slice none 0 0, .slice none 0 0] 37) := ⟨_, rfl⟩
  have hbW : Below w.heap.size w W := (by rw [hW]; exact ((((Below.refl _ _).alloc (Nat.le_refl _) _).alloc (by simp) _).alloc (by simp; omega) _).alloc (by simp; omega) _)
  have hWs : W.heap.size = w.heap.size + 4 := (by rw [hW]; simp)
  have B0 : BlkV W w.heap.size 26 [.int .i64 p.st, .int .i64 p.port, .int .i64 p.to, .int .u32 p.fi, .int .u32 p.un, .int .u32 p.ne, .int .u32 p.wa, .int .i64 p.wi, .int .i64 p.ot, .slice p.d.A p.d.n p.d.c, .slice p.g.A p.g.n p.g.c] := (by rw [hW]; exact (((BlkV.new w _ _).alloc _).alloc _).alloc _)
  have B1 : BlkV W (w.heap.size + 1) 37 [.int .i64 t.sp, .int .i64 t.dp, .int .u32 t.sq, .int .u32 t.ak, .int .i64 t.fl, .int .i64 t.wi, .int .i64 t.ur, .slice t.Ao t.no t.co, .slice t.Ab t.nb t.cb] := (by rw [hW]; exact ((BlkV.new_at (w.alloc (.cells #[.int .i64 p.st, .int .i64 p.port, .int .i64 p.to, .int .u32 p.fi, .int .u32 p.un, .int .u32 p.ne, .int .u32 p.wa, .int .i64 p.wi, .int .i64 p.ot, .slice p.d.A p.d.n p.d.c, .slice p.g.A p.g.n p.g.c] 26)) _ _ (by simp)).alloc _).alloc _)
  have B2 : BlkV W (w.heap.size + 1 + 1) 26 [.int .i64 0, .int .i64 0, .int .i64 0, .int .u32 0, .int .u32 0, .int .u32 0, .int .u32 0, .int .i64 0, .int .i64 0, .slice none 0 0, .slice none 0 0] := (by rw [hW]; exact (BlkV.new_at ((w.alloc (.cells #[.int .i64 p.st, .int .i64 p.port, .int .i64 p.to, .int .u32 p.fi, .int .u32 p.un, .int .u32 p.ne, .int .u32 p.wa, .int .i64 p.wi, .int .i64 p.ot, .slice p.d.A p.d.n p.d.c, .slice p.g.A p.g.n p.g.c] 26)).alloc (.cells #[.int .i64 t.sp, .int .i64 t.dp, .int .u32 t.sq, .int .u32 t.ak, .int .i64 t.fl, .int .i64 t.wi, .int .i64 t.ur, .slice t.Ao t.no t.co, .slice t.Ab t.nb t.cb] 37)) _ _ (by simp)).alloc _)
  have B3 : BlkV W (w.heap.size + 1 + 1 + 1) 37 [.int .i64 0, .int .i64 0, .int .u32 0, .int .u32 0, .int .i64 0, .int .i64 0, .int .i64 0, .slice none 0 0, .slice none 0 0] := (by rw [hW]; exact (BlkV.new_at (((w.alloc (.cells #[.int .i64 p.st, .int .i64 p.port, .int .i64 p.to, .int .u32 p.fi, .int .u32 p.un, .int .u32 p.ne, .int .u32 p.wa, .int .i64 p.wi, .int .i64 p.ot, .slice p.d.A p.d.n p.d.c, .slice p.g.A p.g.n p.g.c] 26)).alloc (.cells #[.int .i64 t.sp, .int .i64 t.dp, .int .u32 t.sq, .int .u32 t.ak, .int .i64 t.fl, .int .i64 t.wi, .int .i64 t.ur, .slice t.Ao t.no t.co, .slice t.Ab t.nb t.cb] 37)).alloc (.cells #[.int .i64 0, .int .i64 0, .int .i64 0, .int .u32 0, .int .u32 0, .int .u32 0, .int .u32 0, .int .i64 0, .int .i64 0, .slice none 0 0, .slice none 0 0] 26)) _ _ (by simp)))
  have HC := Lib.hid (pcopied_spec p W (hp.below hbW) hd hg)
  have hdn : p.d.n ≤ 9223372036854775806 := by omega
  have HW1 := Lib.hid (pwithin_spec t.sp 0 65535)
  have HW2 := Lib.hid (pwithin_spec t.wi 0 65535)
  rw [hws] at HW1
  rw [hww] at HW2
  have HRT := Lib.hid hr
  clear hws hww hr hp hd hg
  all_goals
    go_enter Try.func14, Try.ntmps14
    go_upto_region 1 with (fail)
    rw [← hW]
    clear hW
    go_wp2_with (refine wpList_ldB 26 _ _ (by with_reducible rfl) rfl (by rfl) (by assumption) Try.underlying26 rfl (peer_size (by rfl)) ?_)
    refine HC.out.mono ?_
    rintro e w1 ⟨hb1, A, c, B, k, rfl, oA, oB⟩
    have B0' := B0.below hb1
    have B1' := B1.below hb1
    have B2' := B2.below hb1
    have B3' := B3.below hb1
    have HR := Lib.hid (fun w => pright_spec (p.with_ A c B k) w hdn)
    rw [Peer.right_with, HRT.out] at HR
    have OA := Lib.hid oA
    have OB := Lib.hid oB
    clear B0 B1 B2 B3 HC oA oB
    go_upto_region 2 with (first | (refine wpList_stB 26 _ _ (by with_reducible rfl) rfl (by rfl) [.int .i64 p.st, .int .i64 p.port, .int .i64 p.to, .int .u32 p.fi, .int .u32 p.un, .int .u32 p.ne, .int .u32 p.wa, .int .i64 p.wi, .int .i64 p.ot, .slice A p.d.n c, .slice B p.g.n k] (by rfl) (by assumption) (by rfl) (peer_size (by rfl)) (by rfl) ?_; intro wN BN hO; have B1n := B1'.only hO (by omega); obtain ⟨c0, c1, c2, c3, c4, c5, c6, c7, c8, c9, c10⟩ := cells11 BN; obtain ⟨m0, m1, m2, m3, m4, m5, m6, m7, m8⟩ := cells9 B1n))
    go_upto_region 3 with (fail)
    go_wp2_with (refine wpList_ldB 26 _ _ (by with_reducible rfl) rfl (by rfl) (by assumption) Try.underlying26 rfl (peer_size (by rfl)) ?_)
    refine (HR.out wN).mono ?_
    rintro e w3 ⟨rfl, hb3⟩
    have B0 := BN.below hb3
    have B1 := B1n.below hb3
    have B2 := (B2'.only hO (by omega)).below hb3
    have B3 := (B3'.only hO (by omega)).below hb3
    have hbN := bel_then (hO.bel (by omega) (bel_then hbW hb1)) hb3
    have OA3 := Lib.hid (own_below (own_only OA.out hO (by omega)) hb3)
    have OB3 := Lib.hid (own_below (own_only OB.out hO (by omega)) hb3)
    have hs3 : W.heap.size ≤ w3.heap.size := Nat.le_trans hb1.size (Nat.le_trans (Nat.le_of_eq hO.size.symm) hb3.size)
    clear BN B1n B0' B1' B2' B3' OA OB HR hO hb1 hb3 c0 c1 c2 c3 c4 c5 c6 c7 c8 c9 c10 m0 m1 m2 m3 m4 m5 m6 m7 m8
    obtain ⟨m0, m1, m2, m3, m4, m5, m6, m7, m8⟩ := cells9 B1
    have c0 := cellF B0 0 rfl
    have HQ := Lib.hid (fun w => pasks_spec (p.with_ A c B k) t w hfl.out hak.out)
    go_wp2_with (first | (refine wpList_ldB 26 _ _ (by with_reducible rfl) rfl (by rfl) (by assumption) Try.underlying26 rfl (peer_size (by rfl)) ?_) | (refine wpList_ldB 37 _ _ (by with_reducible rfl) rfl (by rfl) (by assumption) Try.underlying37 rfl (tcp_size (by rfl)) ?_) | ((with_reducible first | refine (HW1.out _).mono ?_ | refine (HW2.out _).mono ?_); rintro e w' ⟨rfl, rfl⟩))
    refine (HQ.out w3).mono ?_
    rintro e w5 ⟨hb5, A2, k2, rfl, hown⟩
    have B2' := B2.below hb5
    have B3' := B3.below hb5
    have HO := Lib.hid hown
    have hs5 := hb5.size
    have OA5 := Lib.hid (own_below OA3.out hb5)
    have OB5 := Lib.hid (own_below OB3.out hb5)
    clear B0 B1 B2 B3 hown HQ OA3 OB3 m0 m1 m2 m3 m4 m5 m6 m7 m8 c0
    simp only [Peer.heard, Peer.speaks, Peer.P.with_]
    go_wp2_with (first | (refine wpList_stB 26 _ _ (by with_reducible rfl) rfl (by rfl) _ (by rfl) (by assumption) (by rfl) (peer_size (by rfl)) (by rfl) ?_; intro wN BN hO) | (refine wpList_stB 37 _ _ (by with_reducible rfl) rfl (by rfl) _ (by rfl) (B3'.only hO (by omega)) (by rfl) (tcp_size (by rfl)) (by rfl) ?_; intro wM BM hM))
    have BN' := BN.only hM (by omega)
    obtain ⟨r0, r1, r2, r3, r4, r5, r6, r7, r8, r9, r10⟩ := cells11 BN'
    obtain ⟨t0, t1, t2, t3, t4, t5, t6, t7, t8⟩ := cells9 BM
    clear BN BM BN' B2' B3'
    exact bodyPost_ret (v := .tuple #[.agg #[.int .i64 4, .int .i64 p.port, .int .i64 p.to, .int .u32 p.fi, .int .u32 t.ak, .int .u32 t.ak, .int .u32 (Seq.step t.sq 1), .int .i64 p.wi, .int .i64 t.wi, .slice A p.d.n c, .slice B p.g.n k], .agg #[.int .i64 p.port, .int .i64 p.to, .int .u32 t.ak, .int .u32 (Seq.step t.sq 1), .int .i64 16, .int .i64 p.wi, .int .i64 0, .slice none 0 0, .slice A2 0 k2], .bool true]) (by simp [results, Try.results14, go_sem, Peer.heard, Peer.speaks, Peer.P.with_, r0, r1, r2, r3, r4, r5, r6, r7, r8, r9, r10, t0, t1, t2, t3, t4, t5, t6, t7, t8]) rfl ⟨hM.bel (by omega) (hO.bel (by omega) (bel_then hbN hb5)), A, c, B, k, A2, k2, rfl, own_weak (own_only (own_only OA5.out hO (by omega)) hM (by omega)) (by omega), own_weak (own_only (own_only OB5.out hO (by omega)) hM (by omega)) (by omega), own_weak (own_only (own_only HO.out hO (by omega)) hM (by omega)) (by omega)⟩
end Go.Proofs.Ytihhcalgjkkalaa
