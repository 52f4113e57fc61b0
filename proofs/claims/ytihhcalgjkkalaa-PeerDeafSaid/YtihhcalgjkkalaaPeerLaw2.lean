/- The walk of PeerDeaf. -/
import Derived.Test.YtihhcalgjkkalaaPeerAwake
import Derived.Test.YtihhcalgjkkalaaPeerSame
import Derived.Test.YtihhcalgjkkalaaTcpShort
namespace Go.Proofs.Ytihhcalgjkkalaa
open Go.RowKit
set_option linter.unusedVariables false
set_option linter.unusedSimpArgs false
theorem bits_ofInt (b : BitVec 64) : BitVec.ofInt 64 (IntKind.i64.wrap (b.toNat : Int)) = b := by
  apply BitVec.eq_of_toNat_eq
  rw [BitVec.toNat_ofInt, IntKind.wrap_i64]
  have := b.isLt
  omega
theorem or4_and4 (x : Int) : (Go.bits .and .i64 (Go.bits .or .i64 x 4) 4 != 0) = true := by
  have e : BitVec.ofInt 64 (Go.bits .or .i64 x 4) = BitVec.ofInt 64 x ||| 4#64 := bits_ofInt (BitVec.ofInt 64 x ||| BitVec.ofInt 64 4)
  have h : (BitVec.ofInt 64 x ||| 4#64) &&& 4#64 = 4#64 := by
    ext i
    simp only [BitVec.getElem_and, BitVec.getElem_or]
    cases (BitVec.ofInt 64 x)[i] <;> simp
  have h2 : Go.bits .and .i64 (Go.bits .or .i64 x 4) 4 = 4 := by
    show IntKind.i64.wrap (((BitVec.ofInt 64 (Go.bits .or .i64 x 4) &&& BitVec.ofInt 64 4).toNat : Nat) : Int) = 4
    rw [e]
    have h3 : (BitVec.ofInt 64 x ||| 4#64) &&& BitVec.ofInt 64 4 = 4#64 := h
    rw [h3]
    decide +kernel
  rw [h2]
  rfl
theorem xor1_ne (x : Int) : (Go.bits .xor .i64 x 1 == x) = false := by
  rw [beq_eq_false_iff_ne]
  intro h
  have e : BitVec.ofInt 64 (Go.bits .xor .i64 x 1) = BitVec.ofInt 64 x ^^^ 1#64 := bits_ofInt (BitVec.ofInt 64 x ^^^ BitVec.ofInt 64 1)
  rw [h] at e
  have h0 := congrArg (fun b : BitVec 64 => b[0]) e
  simp at h0
theorem Peer.P.ok_st {p : Peer.P} {w : World} (h : p.ok w) (s : Int) : ({p with st := s} : Peer.P).ok w := ⟨h.fi, h.un, h.ne, h.wa, h.d, h.g⟩
/-- who is deaf hears nothing -/
theorem phear_deaf (p : Peer.P) (t : Tcp.T) (w : World) (hp : p.ok w) (hd : p.d.n ≤ 140737488355328) (hg : p.g.n ≤ 140737488355328)
    (h : (Go.bits .and .i64 t.fl 4 != 0) = true ∨ (t.dp == p.port) = false ∨ ((p.st == 1) = false ∧ (t.sp == p.to) = false) ∨ p.st = 0) :
    Calls Try.prog 14 #[.agg #[.int .i64 p.st, .int .i64 p.port, .int .i64 p.to, .int .u32 p.fi, .int .u32 p.un, .int .u32 p.ne, .int .u32 p.wa, .int .i64 p.wi, .int .i64 p.ot, .slice p.d.A p.d.n p.d.c, .slice p.g.A p.g.n p.g.c], .agg #[.int .i64 t.sp, .int .i64 t.dp, .int .u32 t.sq, .int .u32 t.ak, .int .i64 t.fl, .int .i64 t.wi, .int .i64 t.ur, .slice t.Ao t.no t.co, .slice t.Ab t.nb t.cb]] w (RefR p w) := by
  by_cases hq : Peer.right p = false ∨ ((t.dp == p.port) && ((p.st == 1) || (t.sp == p.to))) = false ∨ (Go.bits .and .i64 t.fl 4 != 0) = true ∨ Peer.within t.sp 0 65535 = false ∨ Peer.within t.wi 0 65535 = false
  · exact phear_refuse p t w hp hd hg _ _ _ _ _ _ _ rfl rfl rfl rfl rfl rfl rfl hq
  · have hst : p.st = 0 := by
      rcases h with h | h | h | h
      · exact absurd (Or.inr (Or.inr (Or.inl h))) hq
      · exact absurd (Or.inr (Or.inl (by rw [h]; rfl))) hq
      · exact absurd (Or.inr (Or.inl (by rw [h.1, h.2]; simp))) hq
      · exact h
    have e1 : (p.st == 1) = false := by rw [hst]; rfl
    rw [e1] at hq
    simp only [not_or, Bool.not_eq_false, Bool.not_eq_true, Bool.false_or, Bool.and_eq_true] at hq
    obtain ⟨k1, ⟨k2, k3⟩, k4, k5, k6⟩ := hq
    exact phear_idle p t w hp hd hg _ false _ k2 e1 k3 (by rw [hst]; rfl) (by rw [hst]; rfl) (by rw [hst]; rfl) ⟨rfl, rfl⟩ k1 k4 k5 k6
theorem pshort_spec (p : Peer.P) (w : World) : Calls Try.prog 12 #[.agg #[.int .i64 p.st, .int .i64 p.port, .int .i64 p.to, .int .u32 p.fi, .int .u32 p.un, .int .u32 p.ne, .int .u32 p.wa, .int .i64 p.wi, .int .i64 p.ot, .slice p.d.A p.d.n p.d.c, .slice p.g.A p.g.n p.g.c]] w fun e w' => e = .returned (.bool (decide (p.d.n ≤ 2000 ∧ p.g.n ≤ 2000))) ∧ Below w.heap.size w w' := by
  obtain ⟨W, hW⟩ : ∃ W, W = w.alloc (.cells #[.int .i64 p.st, .int .i64 p.port, .int .i64 p.to, .int .u32 p.fi, .int .u32 p.un, .int .u32 p.ne, .int .u32 p.wa, .int .i64 p.wi, .int .i64 p.ot, .slice p.d.A p.d.n p.d.c, .slice p.g.A p.g.n p.g.c] 26) := ⟨_, rfl⟩
  have hbW : Below w.heap.size w W := by rw [hW]; exact (Below.refl _ _).alloc (Nat.le_refl _) _
  have BT : BlkV W w.heap.size 26 [.int .i64 p.st, .int .i64 p.port, .int .i64 p.to, .int .u32 p.fi, .int .u32 p.un, .int .u32 p.ne, .int .u32 p.wa, .int .i64 p.wi, .int .i64 p.ot, .slice p.d.A p.d.n p.d.c, .slice p.g.A p.g.n p.g.c] := by rw [hW]; exact BlkV.new _ _ _
  have c9 := cellF BT 9 rfl
  have c10 := cellF BT 10 rfl
  clear BT
  by_cases h1 : p.d.n ≤ 2000
  · have z1 : (p.d.n : Int) ≤ 2000 := by omega
    go_enter Try.func12, Try.ntmps12
    go_upto_region 1 with (fail)
    rw [← hW]
    clear hW
    go_wp2_with fail
    go_ret
    exact ⟨ret_bool (by rw [Bool.eq_iff_iff]; simp <;> omega), hbW⟩
  · have z1 : ¬ (p.d.n : Int) ≤ 2000 := by omega
    have hq : decide (p.d.n ≤ 2000 ∧ p.g.n ≤ 2000) = false := decide_eq_false (fun h => h1 h.1)
    rw [hq]
    go_enter Try.func12, Try.ntmps12
    go_upto_region 1 with (fail)
    rw [← hW]
    clear hW
    go_wp2_with fail
    go_ret
    exact ⟨rfl, hbW⟩
set_option maxHeartbeats 16000000 in
theorem peerdeaf_walk (p : Peer.P) (t : Tcp.T) (kd : Int) (w : World) (hp : p.ok w) (ht : t.ok w) (hk0 : 0 ≤ kd) (hk1 : kd ≤ 255) :
    Calls Try.prog 4 #[.agg #[.int .i64 p.st, .int .i64 p.port, .int .i64 p.to, .int .u32 p.fi, .int .u32 p.un, .int .u32 p.ne, .int .u32 p.wa, .int .i64 p.wi, .int .i64 p.ot, .slice p.d.A p.d.n p.d.c, .slice p.g.A p.g.n p.g.c], .agg #[.int .i64 t.sp, .int .i64 t.dp, .int .u32 t.sq, .int .u32 t.ak, .int .i64 t.fl, .int .i64 t.wi, .int .i64 t.ur, .slice t.Ao t.no t.co, .slice t.Ab t.nb t.cb], .int .u8 kd] w fun e w' => e = .returned (.bool true) ∧ Below w.heap.size w w' := by
  obtain ⟨W, hW⟩ : ∃ W, W = (w.alloc (.cells #[.int .i64 p.st, .int .i64 p.port, .int .i64 p.to, .int .u32 p.fi, .int .u32 p.un, .int .u32 p.ne, .int .u32 p.wa, .int .i64 p.wi, .int .i64 p.ot, .slice p.d.A p.d.n p.d.c, .slice p.g.A p.g.n p.g.c] 26)).alloc (.cells #[.int .i64 t.sp, .int .i64 t.dp, .int .u32 t.sq, .int .u32 t.ak, .int .i64 t.fl, .int .i64 t.wi, .int .i64 t.ur, .slice t.Ao t.no t.co, .slice t.Ab t.nb t.cb] 37) := ⟨_, rfl⟩
  have hbW : Below w.heap.size w W := by rw [hW]; exact ((Below.refl _ _).alloc (Nat.le_refl _) _).alloc (by simp) _
  have B0 : BlkV W w.heap.size 26 [.int .i64 p.st, .int .i64 p.port, .int .i64 p.to, .int .u32 p.fi, .int .u32 p.un, .int .u32 p.ne, .int .u32 p.wa, .int .i64 p.wi, .int .i64 p.ot, .slice p.d.A p.d.n p.d.c, .slice p.g.A p.g.n p.g.c] := by rw [hW]; exact (BlkV.new w _ _).alloc _
  have B1 : BlkV W (w.heap.size + 1) 37 [.int .i64 t.sp, .int .i64 t.dp, .int .u32 t.sq, .int .u32 t.ak, .int .i64 t.fl, .int .i64 t.wi, .int .i64 t.ur, .slice t.Ao t.no t.co, .slice t.Ab t.nb t.cb] := by rw [hW]; exact BlkV.new_at (w.alloc (.cells #[.int .i64 p.st, .int .i64 p.port, .int .i64 p.to, .int .u32 p.fi, .int .u32 p.un, .int .u32 p.ne, .int .u32 p.wa, .int .i64 p.wi, .int .i64 p.ot, .slice p.d.A p.d.n p.d.c, .slice p.g.A p.g.n p.g.c] 26)) _ _ (by simp)
  have hWs : w.heap.size + 1 < W.heap.size := by rw [hW]; simp
  have HA := Lib.hid (peer_awake W)
  have HSP := Lib.hid (fun w => pshort_spec p w)
  have HST := Lib.hid (fun w' (hb : Below w.heap.size w w') => short_spec t w' (ht.below hb))
  obtain ⟨k4, hk4⟩ : ∃ k4, Int.tmod kd 4 = k4 := ⟨_, rfl⟩
  have hk4b : k4 = 0 ∨ k4 = 1 ∨ k4 = 2 ∨ k4 = 3 := by
    rw [Int.tmod_eq_emod_of_nonneg hk0] at hk4
    omega
  obtain ⟨sb, hsb⟩ : ∃ sb, decide (p.d.n ≤ 2000 ∧ p.g.n ≤ 2000) = sb := ⟨_, rfl⟩
  rw [hsb] at HSP
  have HSB := Lib.hid hsb
  have HP := Lib.hid hp
  clear hsb hp ht
  go_enter Try.func4, Try.ntmps4
  go_upto_region 1 with (fail)
  rw [← hW]
  clear hW
  go_wp2_with fail
  refine HA.out.mono ?_
  rintro e w1 ⟨rfl, hb1⟩
  have B0a := B0.below hb1
  have B1a := B1.below hb1
  have hbw1 := bel_then hbW hb1
  have hs1 := hb1.size
  clear HA B0 B1 hbW hb1
  go_wp2_with (first | (refine wpList_ldB 26 _ _ (by with_reducible rfl) rfl (by rfl) (by assumption) Try.underlying26 rfl (peer_size (by rfl)) ?_))
  refine (HSP.out w1).mono ?_
  rintro e w2 ⟨rfl, hb2⟩
  have B0 := B0a.below hb2
  have B1 := B1a.below hb2
  have hbw2 := bel_then hbw1 hb2
  have hs2 := hb2.size
  clear HSP B0a B1a hbw1 hb2
  obtain ⟨m0, m1, m2, m3, m4, m5, m6, m7, m8⟩ := cells9 B1
  cases sb
  · clear HST
    go_wp2_with fail
    go_ret
    exact ⟨rfl, hbw2⟩
  have HN : Hid (p.d.n ≤ 2000 ∧ p.g.n ≤ 2000) := Lib.hid (of_decide_eq_true HSB.out)
  go_wp2_with fail
  refine (HST.out w2 hbw2).mono ?_
  rintro e w3 ⟨b, rfl, _, hb3⟩
  have B0a := B0.below hb3
  have B1a := B1.below hb3
  have hbw3 := bel_then hbw2 hb3
  have hs3 := hb3.size
  clear HST B0 B1 hbw2 hb3 m0 m1 m2 m3 m4 m5 m6 m7 m8
  cases b
  · go_wp2_with fail
    go_ret
    exact ⟨rfl, hbw3⟩
  obtain ⟨c0, c1, c2, c3, c4, c5, c6, c7, c8, c9, c10⟩ := cells11 B0a
  obtain ⟨m0, m1, m2, m3, m4, m5, m6, m7, m8⟩ := cells9 B1a
  have hgs : w.heap.size + 1 < w3.heap.size := by omega
  rcases hk4b with rfl | rfl | rfl | rfl
  case' inl =>
    go_upto_region 17 with (first | (refine wpList_stF 3 _ _ 4 (.int .i64 (Go.bits .or .i64 t.fl 4)) rfl (by with_reducible rfl) rfl (by rfl) (by rfl) B1a (by simp) (by kernel_rfl) rfl ?_; intro wN BN hO))
    obtain ⟨q, hq⟩ : ∃ q : Peer.P, q = p := ⟨_, rfl⟩
    obtain ⟨u, hu⟩ : ∃ u : Tcp.T, u = {t with fl := Go.bits .or .i64 t.fl 4} := ⟨_, rfl⟩
    have HH : Hid (∀ w' : World, Below w.heap.size w w' → Calls Try.prog 14 #[.agg #[.int .i64 q.st, .int .i64 q.port, .int .i64 q.to, .int .u32 q.fi, .int .u32 q.un, .int .u32 q.ne, .int .u32 q.wa, .int .i64 q.wi, .int .i64 q.ot, .slice q.d.A q.d.n q.d.c, .slice q.g.A q.g.n q.g.c], .agg #[.int .i64 u.sp, .int .i64 u.dp, .int .u32 u.sq, .int .u32 u.ak, .int .i64 u.fl, .int .i64 u.wi, .int .i64 u.ur, .slice u.Ao u.no u.co, .slice u.Ab u.nb u.cb]] w' (RefR q w')) := Lib.hid fun w' hb => by rw [hq, hu]; exact phear_deaf _ _ w' (HP.out.below hb) (by have := HN.out.1; show p.d.n ≤ _; omega) (by have := HN.out.2; show p.g.n ≤ _; omega) (.inl (or4_and4 t.fl))
    have BP : BlkV wN w.heap.size 26 [.int .i64 q.st, .int .i64 q.port, .int .i64 q.to, .int .u32 q.fi, .int .u32 q.un, .int .u32 q.ne, .int .u32 q.wa, .int .i64 q.wi, .int .i64 q.ot, .slice q.d.A q.d.n q.d.c, .slice q.g.A q.g.n q.g.c] := by rw [hq]; exact B0a.only hO (by omega)
    have BT : BlkV wN (w.heap.size + 1) 37 [.int .i64 u.sp, .int .i64 u.dp, .int .u32 u.sq, .int .u32 u.ak, .int .i64 u.fl, .int .i64 u.wi, .int .i64 u.ur, .slice u.Ao u.no u.co, .slice u.Ab u.nb u.cb] := by rw [hu]; exact BN
    have HQ : Hid (q.ok w ∧ q.d.n ≤ 2000 ∧ q.g.n ≤ 2000) := Lib.hid (by rw [hq]; exact ⟨HP.out, HN.out.1, HN.out.2⟩)
    have hbx : Below w.heap.size w wN := hO.bel (by omega) hbw3
    have hsx : w.heap.size + 1 < wN.heap.size := (by rw [hO.size]; exact hgs)
    obtain ⟨wx, hwx⟩ : ∃ wx, wx = wN := ⟨_, rfl⟩
    subst hwx
    clear hq hu HN HP hbw3 B0a B1a c0 c1 c2 c3 c4 c5 c6 c7 c8 c9 c10 m0 m1 m2 m3 m4 m5 m6 m7 m8 hgs hO BN
  case' inr.inl =>
    cases hx : (t.dp == p.port)
    case' true =>
      go_upto_region 17 with (first | (refine wpList_stF 3 _ _ 1 (.int .i64 (Go.bits .xor .i64 p.port 1)) rfl (by with_reducible rfl) rfl (by rfl) (by rfl) B1a (by simp) (by kernel_rfl) rfl ?_; intro wN BN hO))
      obtain ⟨q, hq⟩ : ∃ q : Peer.P, q = p := ⟨_, rfl⟩
      obtain ⟨u, hu⟩ : ∃ u : Tcp.T, u = {t with dp := Go.bits .xor .i64 p.port 1} := ⟨_, rfl⟩
      have HH : Hid (∀ w' : World, Below w.heap.size w w' → Calls Try.prog 14 #[.agg #[.int .i64 q.st, .int .i64 q.port, .int .i64 q.to, .int .u32 q.fi, .int .u32 q.un, .int .u32 q.ne, .int .u32 q.wa, .int .i64 q.wi, .int .i64 q.ot, .slice q.d.A q.d.n q.d.c, .slice q.g.A q.g.n q.g.c], .agg #[.int .i64 u.sp, .int .i64 u.dp, .int .u32 u.sq, .int .u32 u.ak, .int .i64 u.fl, .int .i64 u.wi, .int .i64 u.ur, .slice u.Ao u.no u.co, .slice u.Ab u.nb u.cb]] w' (RefR q w')) := Lib.hid fun w' hb => by rw [hq, hu]; exact phear_deaf _ _ w' (HP.out.below hb) (by have := HN.out.1; show p.d.n ≤ _; omega) (by have := HN.out.2; show p.g.n ≤ _; omega) (.inr (.inl (xor1_ne p.port)))
      have BP : BlkV wN w.heap.size 26 [.int .i64 q.st, .int .i64 q.port, .int .i64 q.to, .int .u32 q.fi, .int .u32 q.un, .int .u32 q.ne, .int .u32 q.wa, .int .i64 q.wi, .int .i64 q.ot, .slice q.d.A q.d.n q.d.c, .slice q.g.A q.g.n q.g.c] := by rw [hq]; exact B0a.only hO (by omega)
      have BT : BlkV wN (w.heap.size + 1) 37 [.int .i64 u.sp, .int .i64 u.dp, .int .u32 u.sq, .int .u32 u.ak, .int .i64 u.fl, .int .i64 u.wi, .int .i64 u.ur, .slice u.Ao u.no u.co, .slice u.Ab u.nb u.cb] := by rw [hu]; exact BN
      have HQ : Hid (q.ok w ∧ q.d.n ≤ 2000 ∧ q.g.n ≤ 2000) := Lib.hid (by rw [hq]; exact ⟨HP.out, HN.out.1, HN.out.2⟩)
      have hbx : Below w.heap.size w wN := hO.bel (by omega) hbw3
      have hsx : w.heap.size + 1 < wN.heap.size := (by rw [hO.size]; exact hgs)
      obtain ⟨wx, hwx⟩ : ∃ wx, wx = wN := ⟨_, rfl⟩
      subst hwx
      clear hq hu HN HP hbw3 B0a B1a c0 c1 c2 c3 c4 c5 c6 c7 c8 c9 c10 m0 m1 m2 m3 m4 m5 m6 m7 m8 hgs hO BN
    case' false =>
      go_upto_region 17 with (fail)
      obtain ⟨q, hq⟩ : ∃ q : Peer.P, q = p := ⟨_, rfl⟩
      obtain ⟨u, hu⟩ : ∃ u : Tcp.T, u = t := ⟨_, rfl⟩
      have HH : Hid (∀ w' : World, Below w.heap.size w w' → Calls Try.prog 14 #[.agg #[.int .i64 q.st, .int .i64 q.port, .int .i64 q.to, .int .u32 q.fi, .int .u32 q.un, .int .u32 q.ne, .int .u32 q.wa, .int .i64 q.wi, .int .i64 q.ot, .slice q.d.A q.d.n q.d.c, .slice q.g.A q.g.n q.g.c], .agg #[.int .i64 u.sp, .int .i64 u.dp, .int .u32 u.sq, .int .u32 u.ak, .int .i64 u.fl, .int .i64 u.wi, .int .i64 u.ur, .slice u.Ao u.no u.co, .slice u.Ab u.nb u.cb]] w' (RefR q w')) := Lib.hid fun w' hb => by rw [hq, hu]; exact phear_deaf _ _ w' (HP.out.below hb) (by have := HN.out.1; show p.d.n ≤ _; omega) (by have := HN.out.2; show p.g.n ≤ _; omega) (.inr (.inl hx))
      have BP : BlkV w3 w.heap.size 26 [.int .i64 q.st, .int .i64 q.port, .int .i64 q.to, .int .u32 q.fi, .int .u32 q.un, .int .u32 q.ne, .int .u32 q.wa, .int .i64 q.wi, .int .i64 q.ot, .slice q.d.A q.d.n q.d.c, .slice q.g.A q.g.n q.g.c] := by rw [hq]; exact B0a
      have BT : BlkV w3 (w.heap.size + 1) 37 [.int .i64 u.sp, .int .i64 u.dp, .int .u32 u.sq, .int .u32 u.ak, .int .i64 u.fl, .int .i64 u.wi, .int .i64 u.ur, .slice u.Ao u.no u.co, .slice u.Ab u.nb u.cb] := by rw [hu]; exact B1a
      have HQ : Hid (q.ok w ∧ q.d.n ≤ 2000 ∧ q.g.n ≤ 2000) := Lib.hid (by rw [hq]; exact ⟨HP.out, HN.out.1, HN.out.2⟩)
      have hbx : Below w.heap.size w w3 := hbw3
      have hsx : w.heap.size + 1 < w3.heap.size := hgs
      obtain ⟨wx, hwx⟩ : ∃ wx, wx = w3 := ⟨_, rfl⟩
      subst hwx
      clear hq hu HN HP hbw3 B0a B1a c0 c1 c2 c3 c4 c5 c6 c7 c8 c9 c10 m0 m1 m2 m3 m4 m5 m6 m7 m8 hgs
  case' inr.inr.inl =>
    cases hy : (p.st == 1)
    case' true =>
      go_wp2_with fail
      go_ret
      exact ⟨rfl, hbw3⟩
    case' false =>
      cases hx : (t.sp == p.to)
      case' true =>
        go_upto_region 17 with (first | (refine wpList_stF 3 _ _ 0 (.int .i64 (Go.bits .xor .i64 p.to 1)) rfl (by with_reducible rfl) rfl (by rfl) (by rfl) B1a (by simp) (by kernel_rfl) rfl ?_; intro wN BN hO))
        obtain ⟨q, hq⟩ : ∃ q : Peer.P, q = p := ⟨_, rfl⟩
        obtain ⟨u, hu⟩ : ∃ u : Tcp.T, u = {t with sp := Go.bits .xor .i64 p.to 1} := ⟨_, rfl⟩
        have HH : Hid (∀ w' : World, Below w.heap.size w w' → Calls Try.prog 14 #[.agg #[.int .i64 q.st, .int .i64 q.port, .int .i64 q.to, .int .u32 q.fi, .int .u32 q.un, .int .u32 q.ne, .int .u32 q.wa, .int .i64 q.wi, .int .i64 q.ot, .slice q.d.A q.d.n q.d.c, .slice q.g.A q.g.n q.g.c], .agg #[.int .i64 u.sp, .int .i64 u.dp, .int .u32 u.sq, .int .u32 u.ak, .int .i64 u.fl, .int .i64 u.wi, .int .i64 u.ur, .slice u.Ao u.no u.co, .slice u.Ab u.nb u.cb]] w' (RefR q w')) := Lib.hid fun w' hb => by rw [hq, hu]; exact phear_deaf _ _ w' (HP.out.below hb) (by have := HN.out.1; show p.d.n ≤ _; omega) (by have := HN.out.2; show p.g.n ≤ _; omega) (.inr (.inr (.inl ⟨hy, xor1_ne p.to⟩)))
        have BP : BlkV wN w.heap.size 26 [.int .i64 q.st, .int .i64 q.port, .int .i64 q.to, .int .u32 q.fi, .int .u32 q.un, .int .u32 q.ne, .int .u32 q.wa, .int .i64 q.wi, .int .i64 q.ot, .slice q.d.A q.d.n q.d.c, .slice q.g.A q.g.n q.g.c] := by rw [hq]; exact B0a.only hO (by omega)
        have BT : BlkV wN (w.heap.size + 1) 37 [.int .i64 u.sp, .int .i64 u.dp, .int .u32 u.sq, .int .u32 u.ak, .int .i64 u.fl, .int .i64 u.wi, .int .i64 u.ur, .slice u.Ao u.no u.co, .slice u.Ab u.nb u.cb] := by rw [hu]; exact BN
        have HQ : Hid (q.ok w ∧ q.d.n ≤ 2000 ∧ q.g.n ≤ 2000) := Lib.hid (by rw [hq]; exact ⟨HP.out, HN.out.1, HN.out.2⟩)
        have hbx : Below w.heap.size w wN := hO.bel (by omega) hbw3
        have hsx : w.heap.size + 1 < wN.heap.size := (by rw [hO.size]; exact hgs)
        obtain ⟨wx, hwx⟩ : ∃ wx, wx = wN := ⟨_, rfl⟩
        subst hwx
        clear hq hu HN HP hbw3 B0a B1a c0 c1 c2 c3 c4 c5 c6 c7 c8 c9 c10 m0 m1 m2 m3 m4 m5 m6 m7 m8 hgs hO BN
      case' false =>
        go_upto_region 17 with (fail)
        obtain ⟨q, hq⟩ : ∃ q : Peer.P, q = p := ⟨_, rfl⟩
        obtain ⟨u, hu⟩ : ∃ u : Tcp.T, u = t := ⟨_, rfl⟩
        have HH : Hid (∀ w' : World, Below w.heap.size w w' → Calls Try.prog 14 #[.agg #[.int .i64 q.st, .int .i64 q.port, .int .i64 q.to, .int .u32 q.fi, .int .u32 q.un, .int .u32 q.ne, .int .u32 q.wa, .int .i64 q.wi, .int .i64 q.ot, .slice q.d.A q.d.n q.d.c, .slice q.g.A q.g.n q.g.c], .agg #[.int .i64 u.sp, .int .i64 u.dp, .int .u32 u.sq, .int .u32 u.ak, .int .i64 u.fl, .int .i64 u.wi, .int .i64 u.ur, .slice u.Ao u.no u.co, .slice u.Ab u.nb u.cb]] w' (RefR q w')) := Lib.hid fun w' hb => by rw [hq, hu]; exact phear_deaf _ _ w' (HP.out.below hb) (by have := HN.out.1; show p.d.n ≤ _; omega) (by have := HN.out.2; show p.g.n ≤ _; omega) (.inr (.inr (.inl ⟨hy, hx⟩)))
        have BP : BlkV w3 w.heap.size 26 [.int .i64 q.st, .int .i64 q.port, .int .i64 q.to, .int .u32 q.fi, .int .u32 q.un, .int .u32 q.ne, .int .u32 q.wa, .int .i64 q.wi, .int .i64 q.ot, .slice q.d.A q.d.n q.d.c, .slice q.g.A q.g.n q.g.c] := by rw [hq]; exact B0a
        have BT : BlkV w3 (w.heap.size + 1) 37 [.int .i64 u.sp, .int .i64 u.dp, .int .u32 u.sq, .int .u32 u.ak, .int .i64 u.fl, .int .i64 u.wi, .int .i64 u.ur, .slice u.Ao u.no u.co, .slice u.Ab u.nb u.cb] := by rw [hu]; exact B1a
        have HQ : Hid (q.ok w ∧ q.d.n ≤ 2000 ∧ q.g.n ≤ 2000) := Lib.hid (by rw [hq]; exact ⟨HP.out, HN.out.1, HN.out.2⟩)
        have hbx : Below w.heap.size w w3 := hbw3
        have hsx : w.heap.size + 1 < w3.heap.size := hgs
        obtain ⟨wx, hwx⟩ : ∃ wx, wx = w3 := ⟨_, rfl⟩
        subst hwx
        clear hq hu HN HP hbw3 B0a B1a c0 c1 c2 c3 c4 c5 c6 c7 c8 c9 c10 m0 m1 m2 m3 m4 m5 m6 m7 m8 hgs
  case' inr.inr.inr =>
    go_upto_region 17 with (first | (refine wpList_stF 3 _ _ 0 (.int .i64 0) rfl (by with_reducible rfl) rfl (by rfl) (by rfl) B0a (by simp) (by kernel_rfl) rfl ?_; intro wN BN hO))
    obtain ⟨q, hq⟩ : ∃ q : Peer.P, q = {p with st := 0} := ⟨_, rfl⟩
    obtain ⟨u, hu⟩ : ∃ u : Tcp.T, u = t := ⟨_, rfl⟩
    have HH : Hid (∀ w' : World, Below w.heap.size w w' → Calls Try.prog 14 #[.agg #[.int .i64 q.st, .int .i64 q.port, .int .i64 q.to, .int .u32 q.fi, .int .u32 q.un, .int .u32 q.ne, .int .u32 q.wa, .int .i64 q.wi, .int .i64 q.ot, .slice q.d.A q.d.n q.d.c, .slice q.g.A q.g.n q.g.c], .agg #[.int .i64 u.sp, .int .i64 u.dp, .int .u32 u.sq, .int .u32 u.ak, .int .i64 u.fl, .int .i64 u.wi, .int .i64 u.ur, .slice u.Ao u.no u.co, .slice u.Ab u.nb u.cb]] w' (RefR q w')) := Lib.hid fun w' hb => by rw [hq, hu]; exact phear_deaf _ _ w' ((Peer.P.ok_st HP.out 0).below hb) (by have := HN.out.1; show p.d.n ≤ _; omega) (by have := HN.out.2; show p.g.n ≤ _; omega) (.inr (.inr (.inr rfl)))
    have BP : BlkV wN w.heap.size 26 [.int .i64 q.st, .int .i64 q.port, .int .i64 q.to, .int .u32 q.fi, .int .u32 q.un, .int .u32 q.ne, .int .u32 q.wa, .int .i64 q.wi, .int .i64 q.ot, .slice q.d.A q.d.n q.d.c, .slice q.g.A q.g.n q.g.c] := by rw [hq]; exact BN
    have BT : BlkV wN (w.heap.size + 1) 37 [.int .i64 u.sp, .int .i64 u.dp, .int .u32 u.sq, .int .u32 u.ak, .int .i64 u.fl, .int .i64 u.wi, .int .i64 u.ur, .slice u.Ao u.no u.co, .slice u.Ab u.nb u.cb] := by rw [hu]; exact B1a.only hO (by omega)
    have HQ : Hid (q.ok w ∧ q.d.n ≤ 2000 ∧ q.g.n ≤ 2000) := Lib.hid (by rw [hq]; exact ⟨(Peer.P.ok_st HP.out 0), HN.out.1, HN.out.2⟩)
    have hbx : Below w.heap.size w wN := hO.bel (by omega) hbw3
    have hsx : w.heap.size + 1 < wN.heap.size := (by rw [hO.size]; exact hgs)
    obtain ⟨wx, hwx⟩ : ∃ wx, wx = wN := ⟨_, rfl⟩
    subst hwx
    clear hq hu HN HP hbw3 B0a B1a c0 c1 c2 c3 c4 c5 c6 c7 c8 c9 c10 m0 m1 m2 m3 m4 m5 m6 m7 m8 hgs hO BN
  all_goals
    go_wp2_with (first | (refine wpList_ldB 26 _ _ (by with_reducible rfl) rfl (by rfl) (by assumption) Try.underlying26 rfl (peer_size (by rfl)) ?_) | (refine wpList_ldB 37 _ _ (by with_reducible rfl) rfl (by rfl) (by assumption) Try.underlying37 rfl (tcp_size (by rfl)) ?_))
    refine (HH.out wx hbx).mono ?_
    rintro e w4 ⟨hb4, A, c, B, k, rfl, oA, oB⟩
    have BPa := ((BP.below hb4).alloc (.cells #[.int .i64 0, .int .i64 0, .int .i64 0, .int .u32 0, .int .u32 0, .int .u32 0, .int .u32 0, .int .i64 0, .int .i64 0, .slice none 0 0, .slice none 0 0] 26)).alloc (.cells #[.int .i64 0, .int .i64 0, .int .u32 0, .int .u32 0, .int .i64 0, .int .i64 0, .int .i64 0, .slice none 0 0, .slice none 0 0] 37)
    have OA := Lib.hid oA
    have OB := Lib.hid oB
    have hb4x := bel_then hbx hb4
    have hs4 := hb4.size
    clear oA oB BP BT HH hbx hb4
    go_upto_region 18 with (first | (refine wpList_stB 26 _ _ (by with_reducible rfl) rfl (by rfl) _ (by rfl) ((BlkV.new w4 26 [.int .i64 0, .int .i64 0, .int .i64 0, .int .u32 0, .int .u32 0, .int .u32 0, .int .u32 0, .int .i64 0, .int .i64 0, .slice none 0 0, .slice none 0 0]).alloc _) (by rfl) (peer_size (by rfl)) (by rfl) ?_; intro wN BN hO) | (refine wpList_stB 37 _ _ (by with_reducible rfl) rfl (by rfl) _ (by rfl) ((BlkV.new_at (w4.alloc (.cells #[.int .i64 0, .int .i64 0, .int .i64 0, .int .u32 0, .int .u32 0, .int .u32 0, .int .u32 0, .int .i64 0, .int .i64 0, .slice none 0 0, .slice none 0 0] 26)) 37 [.int .i64 0, .int .i64 0, .int .u32 0, .int .u32 0, .int .i64 0, .int .i64 0, .int .i64 0, .slice none 0 0, .slice none 0 0] (by simp)).only hO (by omega)) (by rfl) (tcp_size (by rfl)) (by rfl) ?_; intro wM BM hM))
    have BPb := (BPa.only hO (by omega)).only hM (by omega)
    have OA2 := own_st (own_st (own_below OA.out ((((Below.refl _ _).alloc (Nat.le_refl _) _)).alloc (by simp) _)) ((BlkV.new w4 26 [.int .i64 0, .int .i64 0, .int .i64 0, .int .u32 0, .int .u32 0, .int .u32 0, .int .u32 0, .int .i64 0, .int .i64 0, .slice none 0 0, .slice none 0 0]).alloc _) hO (by decide)) ((BlkV.new_at (w4.alloc (.cells #[.int .i64 0, .int .i64 0, .int .i64 0, .int .u32 0, .int .u32 0, .int .u32 0, .int .u32 0, .int .i64 0, .int .i64 0, .slice none 0 0, .slice none 0 0] 26)) 37 [.int .i64 0, .int .i64 0, .int .u32 0, .int .u32 0, .int .i64 0, .int .i64 0, .int .i64 0, .slice none 0 0, .slice none 0 0] (by simp)).only hO (by omega)) hM (by decide)
    have OB2 := own_st (own_st (own_below OB.out ((((Below.refl _ _).alloc (Nat.le_refl _) _)).alloc (by simp) _)) ((BlkV.new w4 26 [.int .i64 0, .int .i64 0, .int .i64 0, .int .u32 0, .int .u32 0, .int .u32 0, .int .u32 0, .int .i64 0, .int .i64 0, .slice none 0 0, .slice none 0 0]).alloc _) hO (by decide)) ((BlkV.new_at (w4.alloc (.cells #[.int .i64 0, .int .i64 0, .int .i64 0, .int .u32 0, .int .u32 0, .int .u32 0, .int .u32 0, .int .i64 0, .int .i64 0, .slice none 0 0, .slice none 0 0] 26)) 37 [.int .i64 0, .int .i64 0, .int .u32 0, .int .u32 0, .int .i64 0, .int .i64 0, .int .i64 0, .slice none 0 0, .slice none 0 0] (by simp)).only hO (by omega)) hM (by decide)
    have hbM := hM.bel (by have := hb4x.size; omega) (hO.bel hb4x.size (bel_a (bel_a hb4x (.cells #[.int .i64 0, .int .i64 0, .int .i64 0, .int .u32 0, .int .u32 0, .int .u32 0, .int .u32 0, .int .i64 0, .int .i64 0, .slice none 0 0, .slice none 0 0] 26)) (.cells #[.int .i64 0, .int .i64 0, .int .u32 0, .int .u32 0, .int .i64 0, .int .i64 0, .int .i64 0, .slice none 0 0, .slice none 0 0] 37)))
    have HSM := Lib.hid (rsame_spec q ⟨A, q.d.n, c, q.d.l⟩ ⟨B, q.g.n, k, q.g.l⟩ wM (HQ.out.1.d.rd.below hbM) (HQ.out.1.g.rd.below hbM) (Rd.of_own OA2) (Rd.of_own OB2))
    obtain ⟨c0, c1, c2, c3, c4, c5, c6, c7, c8, c9, c10⟩ := cells11 BPb
    obtain ⟨r0, r1, r2, r3, r4, r5, r6, r7, r8, r9, r10⟩ := cells11 (BN.only hM (by omega))
    have t4 := fun (w' : World) (hb : Below wM.heap.size wM w') => cellF (BM.below hb) 4 rfl
    have t8 := fun (w' : World) (hb : Below wM.heap.size wM w') => cellF (BM.below hb) 8 rfl
    have T4 := Lib.hid t4
    have T8 := Lib.hid t8
    clear OA OB OA2 OB2 hO hM BN BM BPa BPb hb4x HQ t4 t8
    go_wp2_with fail
    refine HSM.out.mono ?_
    rintro e w5 ⟨rfl, hb5⟩
    have t4 := T4.out w5 hb5
    have t8 := T8.out w5 hb5
    have hbF := bel_then hbM hb5
    clear T4 T8 HSM hb5 hbM c0 c1 c2 c3 c4 c5 c6 c7 c8 c9 c10 r0 r1 r2 r3 r4 r5 r6 r7 r8 r9 r10
    go_wp2_with fail
    go_ret
    exact ⟨ret_bool (by simp), hbF⟩
end Go.Proofs.Ytihhcalgjkkalaa
