/- The walk of peer.Hear, where nothing is heard. -/
import Derived.Test.YtihhcalgjkkalaaPeerAsks
namespace Go.Proofs.Ytihhcalgjkkalaa
open Go.RowKit
set_option linter.unusedVariables false
set_option linter.unusedSimpArgs false
/-- nothing is heard: a peer with bytes of its own -/
def RefR (p : Peer.P) (w : World) (e : Ending) (w' : World) : Prop :=
  Below w.heap.size w w' ∧ ∃ A c B k, e = .returned (.tuple #[.agg #[.int .i64 p.st, .int .i64 p.port, .int .i64 p.to, .int .u32 p.fi, .int .u32 p.un, .int .u32 p.ne, .int .u32 p.wa, .int .i64 p.wi, .int .i64 p.ot, .slice A p.d.n c, .slice B p.g.n k], .agg #[.int .i64 0, .int .i64 0, .int .u32 0, .int .u32 0, .int .i64 0, .int .i64 0, .int .i64 0, .slice none 0 0, .slice none 0 0], .bool false]) ∧ w'.ownsRow w.heap.size 5 1 (.slice A p.d.n c) p.d.n (bs p.d.l) ∧ w'.ownsRow w.heap.size 5 1 (.slice B p.g.n k) p.g.n (bs p.g.l)
set_option maxHeartbeats 16000000 in
theorem phear_refuse (p : Peer.P) (t : Tcp.T) (w : World) (hp : p.ok w) (hd : p.d.n ≤ 140737488355328) (hg : p.g.n ≤ 140737488355328) (x y z r f ws ww : Bool)
    (hx : (t.dp == p.port) = x) (hy : (p.st == 1) = y) (hz : (t.sp == p.to) = z) (hr : Peer.right p = r) (hf : (Go.bits .and .i64 t.fl 4 != 0) = f) (hws : Peer.within t.sp 0 65535 = ws) (hww : Peer.within t.wi 0 65535 = ww)
    (h : r = false ∨ (x && (y || z)) = false ∨ f = true ∨ ws = false ∨ ww = false) :
    Calls Try.prog 14 #[.agg #[.int .i64 p.st, .int .i64 p.port, .int .i64 p.to, .int .u32 p.fi, .int .u32 p.un, .int .u32 p.ne, .int .u32 p.wa, .int .i64 p.wi, .int .i64 p.ot, .slice p.d.A p.d.n p.d.c, .slice p.g.A p.g.n p.g.c], .agg #[.int .i64 t.sp, .int .i64 t.dp, .int .u32 t.sq, .int .u32 t.ak, .int .i64 t.fl, .int .i64 t.wi, .int .i64 t.ur, .slice t.Ao t.no t.co, .slice t.Ab t.nb t.cb]] w (RefR p w) := by
  obtain ⟨W, hW⟩ : ∃ W, W = (((w.alloc (.cells #[.int .i64 p.st, .int .i64 p.port, .int .i64 p.to, .int .u32 p.fi, .int .u32 p.un, .int .u32 p.ne, .int .u32 p.wa, .int .i64 p.wi, .int .i64 p.ot, .slice p.d.A p.d.n p.d.c, .slice p.g.A p.g.n p.g.c] 26)).alloc (.cells #[.int .i64 t.sp, .int .i64 t.dp, .int .u32 t.sq, .int .u32 t.ak, .int .i64 t.fl, .int .i64 t.wi, .int .i64 t.ur, .slice t.Ao t.no t.co, .slice t.Ab t.nb t.cb] 37)).alloc (.cells #[.int .i64 0, .int .i64 0, .int .i64 0, .int .u32 0, .int .u32 0, .int .u32 0, .int .u32 0, .int .i64 0, .int .i64 0, .slice none 0 0, .slice none 0 0] 26)).alloc (.cells #[.int .i64 0, .int .i64 0, .int .u32 0, .int .u32 0, .int .i64 0, .int .i64 0, .int .i64 0, .slice none 0 0, .slice none 0 0] 37) := ⟨_, rfl⟩
  have hbW : Below w.heap.size w W := (by rw [hW]; exact ((((Below.refl _ _).alloc (Nat.le_refl _) _).alloc (by simp) _).alloc (by simp; omega) _).alloc (by simp; omega) _)
  have hWs : W.heap.size = w.heap.size + 4 := (by rw [hW]; simp)
  have B0 : BlkV W w.heap.size 26 [.int .i64 p.st, .int .i64 p.port, .int .i64 p.to, .int .u32 p.fi, .int .u32 p.un, .int .u32 p.ne, .int .u32 p.wa, .int .i64 p.wi, .int .i64 p.ot, .slice p.d.A p.d.n p.d.c, .slice p.g.A p.g.n p.g.c] := (by rw [hW]; exact (((BlkV.new w _ _).alloc _).alloc _).alloc _)
  have B1 : BlkV W (w.heap.size + 1) 37 [.int .i64 t.sp, .int .i64 t.dp, .int .u32 t.sq, .int .u32 t.ak, .int .i64 t.fl, .int .i64 t.wi, .int .i64 t.ur, .slice t.Ao t.no t.co, .slice t.Ab t.nb t.cb] := (by rw [hW]; exact ((BlkV.new_at (w.alloc (.cells #[.int .i64 p.st, .int .i64 p.port, .int .i64 p.to, .int .u32 p.fi, .int .u32 p.un, .int .u32 p.ne, .int .u32 p.wa, .int .i64 p.wi, .int .i64 p.ot, .slice p.d.A p.d.n p.d.c, .slice p.g.A p.g.n p.g.c] 26)) _ _ (by simp)).alloc _).alloc _)
  have B2 : BlkV W (w.heap.size + 1 + 1) 26 [.int .i64 0, .int .i64 0, .int .i64 0, .int .u32 0, .int .u32 0, .int .u32 0, .int .u32 0, .int .i64 0, .int .i64 0, .slice none 0 0, .slice none 0 0] := (by rw [hW]; exact (BlkV.new_at ((w.alloc (.cells #[.int .i64 p.st, .int .i64 p.port, .int .i64 p.to, .int .u32 p.fi, .int .u32 p.un, .int .u32 p.ne, .int .u32 p.wa, .int .i64 p.wi, .int .i64 p.ot, .slice p.d.A p.d.n p.d.c, .slice p.g.A p.g.n p.g.c] 26)).alloc (.cells #[.int .i64 t.sp, .int .i64 t.dp, .int .u32 t.sq, .int .u32 t.ak, .int .i64 t.fl, .int .i64 t.wi, .int .i64 t.ur, .slice t.Ao t.no t.co, .slice t.Ab t.nb t.cb] 37)) _ _ (by simp)).alloc _)
  have B3 : BlkV W (w.heap.size + 1 + 1 + 1) 37 [.int .i64 0, .int .i64 0, .int .u32 0, .int .u32 0, .int .i64 0, .int .i64 0, .int .i64 0, .slice none 0 0, .slice none 0 0] := (by rw [hW]; exact (BlkV.new_at (((w.alloc (.cells #[.int .i64 p.st, .int .i64 p.port, .int .i64 p.to, .int .u32 p.fi, .int .u32 p.un, .int .u32 p.ne, .int .u32 p.wa, .int .i64 p.wi, .int .i64 p.ot, .slice p.d.A p.d.n p.d.c, .slice p.g.A p.g.n p.g.c] 26)).alloc (.cells #[.int .i64 t.sp, .int .i64 t.dp, .int .u32 t.sq, .int .u32 t.ak, .int .i64 t.fl, .int .i64 t.wi, .int .i64 t.ur, .slice t.Ao t.no t.co, .slice t.Ab t.nb t.cb] 37)).alloc (.cells #[.int .i64 0, .int .i64 0, .int .i64 0, .int .u32 0, .int .u32 0, .int .u32 0, .int .u32 0, .int .i64 0, .int .i64 0, .slice none 0 0, .slice none 0 0] 26)) _ _ (by simp)))
  have HC := Lib.hid (pcopied_spec p W (hp.below hbW) hd hg)
  have hdn : p.d.n ≤ 9223372036854775806 := by omega
  have HW1 := Lib.hid (pwithin_spec t.sp 0 65535)
  have HW2 := Lib.hid (pwithin_spec t.wi 0 65535)
  rw [hws] at HW1
  rw [hww] at HW2
  have HRT := Lib.hid hr
  clear hws hww hr hp hd hg
  rcases (show (x = false ∧ r = false) ∨ (x = true ∧ y = true ∧ r = false) ∨ (x = true ∧ y = false ∧ z = true ∧ r = false) ∨ (x = true ∧ y = false ∧ z = false ∧ r = false)
      ∨ (x = false ∧ r = true) ∨ (x = true ∧ y = false ∧ z = false ∧ r = true)
      ∨ (x = true ∧ y = true ∧ r = true ∧ f = true) ∨ (x = true ∧ y = false ∧ z = true ∧ r = true ∧ f = true)
      ∨ (x = true ∧ y = true ∧ r = true ∧ f = false ∧ ws = false) ∨ (x = true ∧ y = false ∧ z = true ∧ r = true ∧ f = false ∧ ws = false)
      ∨ (x = true ∧ y = true ∧ r = true ∧ f = false ∧ ws = true ∧ ww = false) ∨ (x = true ∧ y = false ∧ z = true ∧ r = true ∧ f = false ∧ ws = true ∧ ww = false) by
      revert h; cases x <;> cases y <;> cases z <;> cases r <;> cases f <;> cases ws <;> cases ww <;> simp) with
    ⟨rfl, rfl⟩ | ⟨rfl, rfl, rfl⟩ | ⟨rfl, rfl, rfl, rfl⟩ | ⟨rfl, rfl, rfl, rfl⟩ | ⟨rfl, rfl⟩ | ⟨rfl, rfl, rfl, rfl⟩ | ⟨rfl, rfl, rfl, rfl⟩ | ⟨rfl, rfl, rfl, rfl, rfl⟩ | ⟨rfl, rfl, rfl, rfl, rfl⟩ | ⟨rfl, rfl, rfl, rfl, rfl, rfl⟩ | ⟨rfl, rfl, rfl, rfl, rfl, rfl⟩ | ⟨rfl, rfl, rfl, rfl, rfl, rfl, rfl⟩
  all_goals
    clear h
    go_enter Try.func14, Try.ntmps14
    go_upto_region 1 with (fail)
    rw [← hW]
    clear hW
    go_wp2_with (refine wpList_ldB 26 _ _ (by with_reducible rfl) rfl (by rfl) (by assumption) Try.underlying26 rfl (peer_size (by rfl)) ?_)
    refine HC.out.mono ?_
    rintro e w1 ⟨hb1, A, c, B, k, rfl, oA, oB⟩
    have B0' := B0.below hb1
    have B1' := B1.below hb1
    have B2' := B2.below hb1
    have B3' := B3.below hb1
    have HR := Lib.hid (fun w => pright_spec (p.with_ A c B k) w hdn)
    rw [Peer.right_with, HRT.out] at HR
    have OA := Lib.hid oA
    have OB := Lib.hid oB
    clear B0 B1 B2 B3 HC oA oB
    go_upto_region 2 with (first | (refine wpList_stB 26 _ _ (by with_reducible rfl) rfl (by rfl) [.int .i64 p.st, .int .i64 p.port, .int .i64 p.to, .int .u32 p.fi, .int .u32 p.un, .int .u32 p.ne, .int .u32 p.wa, .int .i64 p.wi, .int .i64 p.ot, .slice A p.d.n c, .slice B p.g.n k] (by rfl) (by assumption) (by rfl) (peer_size (by rfl)) (by rfl) ?_; intro wN BN hO; have B1n := B1'.only hO (by omega); obtain ⟨c0, c1, c2, c3, c4, c5, c6, c7, c8, c9, c10⟩ := cells11 BN; obtain ⟨m0, m1, m2, m3, m4, m5, m6, m7, m8⟩ := cells9 B1n))
    go_upto_region 3 with (fail)
    go_wp2_with (refine wpList_ldB 26 _ _ (by with_reducible rfl) rfl (by rfl) (by assumption) Try.underlying26 rfl (peer_size (by rfl)) ?_)
    refine (HR.out wN).mono ?_
    rintro e w3 ⟨rfl, hb3⟩
    have B0 := BN.below hb3
    have B1 := B1n.below hb3
    have B2 := (B2'.only hO (by omega)).below hb3
    have B3 := (B3'.only hO (by omega)).below hb3
    have hbN := bel_then (hO.bel (by omega) (bel_then hbW hb1)) hb3
    have OA3 := Lib.hid (own_below (own_only OA.out hO (by omega)) hb3)
    have OB3 := Lib.hid (own_below (own_only OB.out hO (by omega)) hb3)
    clear BN B1n B0' B1' B2' B3' OA OB HR hO hb1 hb3 c0 c1 c2 c3 c4 c5 c6 c7 c8 c9 c10 m0 m1 m2 m3 m4 m5 m6 m7 m8
    obtain ⟨m0, m1, m2, m3, m4, m5, m6, m7, m8⟩ := cells9 B1
    go_wp2_with (first | (refine wpList_ldB 26 _ _ (by with_reducible rfl) rfl (by rfl) (by assumption) Try.underlying26 rfl (peer_size (by rfl)) ?_) | (refine wpList_stB 26 _ _ (by with_reducible rfl) rfl (by rfl) _ (by rfl) (by assumption) (by rfl) (peer_size (by rfl)) (by rfl) ?_; intro wN BN hO) | (refine wpList_stB 37 _ _ (by with_reducible rfl) rfl (by rfl) _ (by rfl) (B3.only hO (by omega)) (by rfl) (tcp_size (by rfl)) (by rfl) ?_; intro wM BM hM) | ((with_reducible first | refine (HW1.out _).mono ?_ | refine (HW2.out _).mono ?_); rintro e w' ⟨rfl, rfl⟩))
    have BN' := BN.only hM (by omega)
    obtain ⟨r0, r1, r2, r3, r4, r5, r6, r7, r8, r9, r10⟩ := cells11 BN'
    obtain ⟨t0, t1, t2, t3, t4, t5, t6, t7, t8⟩ := cells9 BM
    clear BN BM BN' B0 B1 B2 B3
    exact bodyPost_ret (v := .tuple #[.agg #[.int .i64 p.st, .int .i64 p.port, .int .i64 p.to, .int .u32 p.fi, .int .u32 p.un, .int .u32 p.ne, .int .u32 p.wa, .int .i64 p.wi, .int .i64 p.ot, .slice A p.d.n c, .slice B p.g.n k], .agg #[.int .i64 0, .int .i64 0, .int .u32 0, .int .u32 0, .int .i64 0, .int .i64 0, .int .i64 0, .slice none 0 0, .slice none 0 0], .bool false]) (by simp [results, Try.results14, go_sem, r0, r1, r2, r3, r4, r5, r6, r7, r8, r9, r10, t0, t1, t2, t3, t4, t5, t6, t7, t8]) rfl ⟨hM.bel (by omega) (hO.bel (by omega) hbN), A, c, B, k, rfl, own_weak (own_only (own_only OA3.out hO (by omega)) hM (by omega)) (by omega), own_weak (own_only (own_only OB3.out hO (by omega)) hM (by omega)) (by omega)⟩
end Go.Proofs.Ytihhcalgjkkalaa
