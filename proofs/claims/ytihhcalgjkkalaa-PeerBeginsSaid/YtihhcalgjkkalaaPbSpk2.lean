/- The walk of peer.speak where an acknowledgement comes. -/
import Derived.Test.YtihhcalgjkkalaaPbSpk1
namespace Go.Proofs.Ytihhcalgjkkalaa
open Go.RowKit
set_option linter.unusedVariables false
set_option linter.unusedSimpArgs false
/-- the memory of speak: the peer as it is -/
structure SpkM (w : World) (p1 : Peer.P) (t : Tcp.T) (wx : World) : Prop where
  b0 : BlkV wx w.heap.size 26 [.int .i64 p1.st, .int .i64 p1.port, .int .i64 p1.to, .int .u32 p1.fi, .int .u32 p1.un, .int .u32 p1.ne, .int .u32 p1.wa, .int .i64 p1.wi, .int .i64 p1.ot, .slice p1.d.A p1.d.n p1.d.c, .slice p1.g.A p1.g.n p1.g.c]
  b1 : BlkV wx (w.heap.size + 1) 37 [.int .i64 t.sp, .int .i64 t.dp, .int .u32 t.sq, .int .u32 t.ak, .int .i64 t.fl, .int .i64 t.wi, .int .i64 t.ur, .slice t.Ao t.no t.co, .slice t.Ab t.nb t.cb]
  b2 : BlkV wx (w.heap.size + 1 + 1) 26 [.int .i64 0, .int .i64 0, .int .i64 0, .int .u32 0, .int .u32 0, .int .u32 0, .int .u32 0, .int .i64 0, .int .i64 0, .slice none 0 0, .slice none 0 0]
  b3 : BlkV wx (w.heap.size + 1 + 1 + 1) 37 [.int .i64 0, .int .i64 0, .int .u32 0, .int .u32 0, .int .i64 0, .int .i64 0, .int .i64 0, .slice none 0 0, .slice none 0 0]
  bel : Below w.heap.size w wx
  sz : wx.heap.size = w.heap.size + 4
theorem own_eq {w : World} {base : Nat} {p q : Peer.P} (h : OwnP w base p) (h1 : q.d = p.d) (h2 : q.g = p.g) : OwnP w base q := ⟨by rw [h1]; exact h.d, by rw [h2]; exact h.g⟩
def Peer.P.ack (p : Peer.P) (t : Tcp.T) : Peer.P := if Seq.ahead t.ak p.un && !Seq.ahead t.ak (Seq.step p.fi ((p.d.n : Int) + 1)) then ⟨p.st, p.port, p.to, p.fi, t.ak, Seq.later p.ne t.ak, p.wa, p.wi, p.ot, p.d, p.g⟩ else p
def Peer.P.let_ (p : Peer.P) (t : Tcp.T) : Peer.P := if t.ak = p.un then ⟨p.st, p.port, p.to, p.fi, p.un, p.ne, p.wa, p.wi, t.wi, p.d, p.g⟩ else p
theorem Peer.ack_dg (p : Peer.P) (t : Tcp.T) : (p.ack t).d = p.d ∧ (p.ack t).g = p.g := by
  unfold Peer.P.ack
  split <;> exact ⟨rfl, rfl⟩
theorem Peer.let_dg (p : Peer.P) (t : Tcp.T) : (p.let_ t).d = p.d ∧ (p.let_ t).g = p.g := by
  unfold Peer.P.let_
  split <;> exact ⟨rfl, rfl⟩
theorem Peer.ack_con {p : Peer.P} {t : Tcp.T} (hl : p.d.l.length = p.d.n) : (p.ack t).con = Pb.ackC p.con t.con := by
  unfold Peer.P.ack Pb.ackC Peer.P.con Tcp.T.con
  simp only [hl]
  split <;> rfl
theorem Peer.let_con (p : Peer.P) (t : Tcp.T) : (p.let_ t).con = Pb.letC p.con t.con := by
  unfold Peer.P.let_ Pb.letC Peer.P.con Tcp.T.con
  split <;> simp_all
set_option maxHeartbeats 8000000 in
theorem pspeak_main (p : Peer.P) (t : Tcp.T) (w0 w : World) (hb0 : Below w0.heap.size w0 w) (hp : OwnP w w0.heap.size p) (hx : apart (.slice p.d.A p.d.n p.d.c) (.slice p.g.A p.g.n p.g.c)) (hr : Rd w 1 t.Ab t.nb (bs t.body)) (hB : isB t.body) (hn : t.nb ≤ 65536) (hc : t.nb ≤ t.cb) (hf : (Go.bits .and .i64 t.fl 2 != 0) = false) (hf2 : (Go.bits .and .i64 t.fl 16 == 0) = false) :
    Calls Try.prog 27 #[.agg #[.int .i64 p.st, .int .i64 p.port, .int .i64 p.to, .int .u32 p.fi, .int .u32 p.un, .int .u32 p.ne, .int .u32 p.wa, .int .i64 p.wi, .int .i64 p.ot, .slice p.d.A p.d.n p.d.c, .slice p.g.A p.g.n p.g.c], .agg #[.int .i64 t.sp, .int .i64 t.dp, .int .u32 t.sq, .int .u32 t.ak, .int .i64 t.fl, .int .i64 t.wi, .int .i64 t.ur, .slice t.Ao t.no t.co, .slice t.Ab t.nb t.cb]] w (PtR2 w0 w (Value.slice p.g.A p.g.n p.g.c).ownBlock (Pb.speakC p.con t.con)) := by
  obtain ⟨W, hW⟩ : ∃ W, W = (((w.alloc (.cells #[.int .i64 p.st, .int .i64 p.port, .int .i64 p.to, .int .u32 p.fi, .int .u32 p.un, .int .u32 p.ne, .int .u32 p.wa, .int .i64 p.wi, .int .i64 p.ot, .slice p.d.A p.d.n p.d.c, .slice p.g.A p.g.n p.g.c] 26)).alloc (.cells #[.int .i64 t.sp, .int .i64 t.dp, .int .u32 t.sq, .int .u32 t.ak, .int .i64 t.fl, .int .i64 t.wi, .int .i64 t.ur, .slice t.Ao t.no t.co, .slice t.Ab t.nb t.cb] 37)).alloc (.cells #[.int .i64 0, .int .i64 0, .int .i64 0, .int .u32 0, .int .u32 0, .int .u32 0, .int .u32 0, .int .i64 0, .int .i64 0, .slice none 0 0, .slice none 0 0] 26)).alloc (.cells #[.int .i64 0, .int .i64 0, .int .u32 0, .int .u32 0, .int .i64 0, .int .i64 0, .int .i64 0, .slice none 0 0, .slice none 0 0] 37) := ⟨_, rfl⟩
  have hbW : Below w.heap.size w W := (by rw [hW]; exact ((((Below.refl _ _).alloc (Nat.le_refl _) _).alloc (by simp) _).alloc (by simp; omega) _).alloc (by simp; omega) _)
  have hWs : W.heap.size = w.heap.size + 4 := (by rw [hW]; simp)
  have B0 : BlkV W w.heap.size 26 [.int .i64 p.st, .int .i64 p.port, .int .i64 p.to, .int .u32 p.fi, .int .u32 p.un, .int .u32 p.ne, .int .u32 p.wa, .int .i64 p.wi, .int .i64 p.ot, .slice p.d.A p.d.n p.d.c, .slice p.g.A p.g.n p.g.c] := (by rw [hW]; exact (((BlkV.new w _ _).alloc _).alloc _).alloc _)
  have B1 : BlkV W (w.heap.size + 1) 37 [.int .i64 t.sp, .int .i64 t.dp, .int .u32 t.sq, .int .u32 t.ak, .int .i64 t.fl, .int .i64 t.wi, .int .i64 t.ur, .slice t.Ao t.no t.co, .slice t.Ab t.nb t.cb] := (by rw [hW]; exact ((BlkV.new_at (w.alloc (.cells #[.int .i64 p.st, .int .i64 p.port, .int .i64 p.to, .int .u32 p.fi, .int .u32 p.un, .int .u32 p.ne, .int .u32 p.wa, .int .i64 p.wi, .int .i64 p.ot, .slice p.d.A p.d.n p.d.c, .slice p.g.A p.g.n p.g.c] 26)) _ _ (by simp)).alloc _).alloc _)
  have B2 : BlkV W (w.heap.size + 1 + 1) 26 [.int .i64 0, .int .i64 0, .int .i64 0, .int .u32 0, .int .u32 0, .int .u32 0, .int .u32 0, .int .i64 0, .int .i64 0, .slice none 0 0, .slice none 0 0] := (by rw [hW]; exact (BlkV.new_at ((w.alloc (.cells #[.int .i64 p.st, .int .i64 p.port, .int .i64 p.to, .int .u32 p.fi, .int .u32 p.un, .int .u32 p.ne, .int .u32 p.wa, .int .i64 p.wi, .int .i64 p.ot, .slice p.d.A p.d.n p.d.c, .slice p.g.A p.g.n p.g.c] 26)).alloc (.cells #[.int .i64 t.sp, .int .i64 t.dp, .int .u32 t.sq, .int .u32 t.ak, .int .i64 t.fl, .int .i64 t.wi, .int .i64 t.ur, .slice t.Ao t.no t.co, .slice t.Ab t.nb t.cb] 37)) _ _ (by simp)).alloc _)
  have B3 : BlkV W (w.heap.size + 1 + 1 + 1) 37 [.int .i64 0, .int .i64 0, .int .u32 0, .int .u32 0, .int .i64 0, .int .i64 0, .int .i64 0, .slice none 0 0, .slice none 0 0] := (by rw [hW]; exact (BlkV.new_at (((w.alloc (.cells #[.int .i64 p.st, .int .i64 p.port, .int .i64 p.to, .int .u32 p.fi, .int .u32 p.un, .int .u32 p.ne, .int .u32 p.wa, .int .i64 p.wi, .int .i64 p.ot, .slice p.d.A p.d.n p.d.c, .slice p.g.A p.g.n p.g.c] 26)).alloc (.cells #[.int .i64 t.sp, .int .i64 t.dp, .int .u32 t.sq, .int .u32 t.ak, .int .i64 t.fl, .int .i64 t.wi, .int .i64 t.ur, .slice t.Ao t.no t.co, .slice t.Ab t.nb t.cb] 37)).alloc (.cells #[.int .i64 0, .int .i64 0, .int .i64 0, .int .u32 0, .int .u32 0, .int .u32 0, .int .u32 0, .int .i64 0, .int .i64 0, .slice none 0 0, .slice none 0 0] 26)) _ _ (by simp)))
  have HS := Lib.hid (seq_step p.fi ((p.d.n : Int) + 1))
  have HBL := Lib.hid (show t.body.length = t.nb by have := hr.1; simpa [bs] using this)
  have HA1 := Lib.hid (seq_ahead t.ak p.un)
  have HA2 := Lib.hid (seq_ahead t.ak (Seq.step p.fi ((p.d.n : Int) + 1)))
  have HL := Lib.hid (seq_later p.ne t.ak)
  have hpl := hp.d.le
  have w1 : IntKind.i64.wrap ((p.d.n : Int) + 1) = (p.d.n : Int) + 1 := by rw [IntKind.wrap_i64]; omega
  obtain ⟨m0, m1, m2, m3, m4, m5, m6, m7, m8⟩ := cells9 B1
  have c3 := cellF B0 3 rfl
  have c4 := cellF B0 4 rfl
  have c9 := cellF B0 9 rfl
  obtain ⟨p1, hp1⟩ : ∃ p1, p1 = p.ack t := ⟨_, rfl⟩
  have HP1 := Lib.hid hp1
  obtain ⟨a1, ha1⟩ : ∃ b, Seq.ahead t.ak p.un = b := ⟨_, rfl⟩
  obtain ⟨a2, ha2⟩ : ∃ b, Seq.ahead t.ak (Seq.step p.fi ((p.d.n : Int) + 1)) = b := ⟨_, rfl⟩
  have HPC : Hid (p1 = if a1 && !a2 then ⟨p.st, p.port, p.to, p.fi, t.ak, Seq.later p.ne t.ak, p.wa, p.wi, p.ot, p.d, p.g⟩ else p) := Lib.hid (by rw [hp1]; unfold Peer.P.ack; rw [ha1, ha2])
  rw [ha1] at HA1
  rw [ha2] at HA2
  have HM : Hid (SpkM w p t W) := Lib.hid ⟨B0, B1, B2, B3, hbW, hWs⟩
  have HPQ := Lib.hid hp
  have HX := Lib.hid hx
  have HB0 := Lib.hid hb0
  clear hb0 hp hx hp1 ha1 ha2
  go_enter Try.func27, Try.ntmps27
  go_upto_region 1 with (fail)
  rw [← hW]
  clear hW
  go_upto_region 6 with (with_reducible first | (refine (HS.out _).mono ?_; rintro e w' ⟨rfl, rfl⟩))
  go_cut [41] (fun s41 wx => s41 = .bool (a1 && !a2) ∧ W = wx)
  case first =>
    cases a1
    all_goals
      go_wp2_with (with_reducible first | (refine (HA1.out _).mono ?_; rintro e w' ⟨rfl, rfl⟩) | (refine (HA2.out _).mono ?_; rintro e w' ⟨rfl, rfl⟩))
      go_meet
      exact ⟨rfl, rfl⟩
  case rest =>
  obtain ⟨rfl, rfl⟩ := hcut
  obtain ⟨q, hq⟩ : ∃ q, (a1 && !a2) = q := ⟨_, rfl⟩
  rw [hq] at HPC
  clear HA1 HA2 HS
  simp only [hq]
  clear hq
  go_upto_if 41 with (fail)
  go_cut [] (fun wx => SpkM w p1 t wx)
  case first =>
    obtain ⟨B0, B1, B2, B3, hbW, hWs⟩ := HM.out
    cases q
    · have e := HPC.out
      simp only [Bool.false_eq_true, if_false] at e
      subst e
      go_wp2_with fail
      go_meet
      exact HM.out
    · have e := HPC.out
      simp only [if_true] at e
      subst e
      have KF : Hid (∀ w' : World, BlkV w' (w.heap.size + 1) 37 [.int .i64 t.sp, .int .i64 t.dp, .int .u32 t.sq, .int .u32 t.ak, .int .i64 t.fl, .int .i64 t.wi, .int .i64 t.ur, .slice t.Ao t.no t.co, .slice t.Ab t.nb t.cb] → w'.cell? ⟨w.heap.size + 1, 3, none⟩ = some (.int .u32 t.ak)) := Lib.hid fun w' h => h.cell rfl
      have c5 := cellF B0 5 rfl
      go_upto_region 7 with (fail)
      go_wp2_with fail
      refine wp_region_held_drew (S := fun w' => w'.cell? ⟨w.heap.size + 1, 3, none⟩ = some (.int .u32 t.ak)) (by kernel_rfl) (KF.out _ B1) (fun hHeld => ?_)
      refine wpAnyH_takeD (i := 0) (some 42) (v := ?_) rfl rfl (by kernel_rfl) (by kernel_rfl) (by kernel_rfl) (fun _ _ _ h => h) (Or.inl ⟨by rfl, ?_⟩) (by assumption) ?_
      rotate_left
      · (intro w hSw; (try dsimp only at hSw); go_simp; try with_reducible rfl)
      try simp only [Act.put, List.setIfInBounds_toArray, List.set_cons_zero, List.set_cons_succ]
      refine wpAnyH_takeD (i := 1) (some 43) (v := ?_) rfl rfl (by kernel_rfl) (by kernel_rfl) (by kernel_rfl) (fun _ _ _ h => h) (Or.inl ⟨by rfl, ?_⟩) (by assumption) ?_
      rotate_left
      · (intro w hSw; (try dsimp only at hSw); go_simp; try with_reducible rfl)
      try simp only [Act.put, List.setIfInBounds_toArray, List.set_cons_zero, List.set_cons_succ]
      refine wpAnyH_takeD (i := 2) (some 44) (v := ?_) rfl rfl (by kernel_rfl) (by kernel_rfl) (by kernel_rfl) (fun _ _ _ h => h) (Or.inl ⟨by rfl, ?_⟩) (by assumption) ?_
      rotate_left
      · (intro w hSw; (try dsimp only at hSw); go_simp; try with_reducible rfl)
      try simp only [Act.put, List.setIfInBounds_toArray, List.set_cons_zero, List.set_cons_succ]
      refine wpAnyH_takeD (i := 4) (some 46) (v := ?_) rfl rfl (by kernel_rfl) (by kernel_rfl) (by kernel_rfl) (fun _ _ _ h => h) (Or.inl ⟨by rfl, ?_⟩) (by assumption) ?_
      rotate_left
      · (intro w hSw; (try dsimp only at hSw); go_simp; try with_reducible rfl)
      try simp only [Act.put, List.setIfInBounds_toArray, List.set_cons_zero, List.set_cons_succ]
      refine wpAnyH_takeD (i := 5) (some 47) (v := ?_) rfl rfl (by kernel_rfl) (by kernel_rfl) (by kernel_rfl) (fun _ _ _ h => h) (Or.inl ⟨by rfl, ?_⟩) (by assumption) ?_
      rotate_left
      · (intro w hSw; (try dsimp only at hSw); go_simp; try with_reducible rfl)
      try simp only [Act.put, List.setIfInBounds_toArray, List.set_cons_zero, List.set_cons_succ]
      refine wpAnyH_ready (rs := [3]) (by kernel_rfl) (by simp) ?_
      refine AllReadyH.cons (o := _) rfl (fun K hK => ?_) AllReadyH.nil
      go_simp
      refine hK.out _ _ (KF.out _ B1) (fun hHeld => ?_)
      clear hK K
      try simp only [Act.put, List.setIfInBounds_toArray, List.set_cons_zero, List.set_cons_succ]
      refine wpAnyH_takeD (i := 7) (some 49) (v := ?_) rfl rfl (by kernel_rfl) (by kernel_rfl) (by kernel_rfl) (fun _ _ _ h => h) (Or.inl ⟨by rfl, ?_⟩) (by assumption) ?_
      rotate_left
      · (intro w hSw; (try dsimp only at hSw); go_simp; try with_reducible rfl)
      try simp only [Act.put, List.setIfInBounds_toArray, List.set_cons_zero, List.set_cons_succ]
      refine wpAnyH_ready (rs := [6]) (by kernel_rfl) (by simp) ?_
      refine AllReadyH.cons (o := _) rfl (fun K hK => ?_) AllReadyH.nil
      go_simp
      refine (HL.out _).mono ?_
      rintro e wx ⟨rfl, rfl⟩
      go_wp2_with fail
      refine hK.out _ _ (KF.out _ B1) (fun hHeld => ?_)
      clear hK K
      try simp only [Act.put, List.setIfInBounds_toArray, List.set_cons_zero, List.set_cons_succ]
      refine wpAnyH_ready (rs := [8]) (by kernel_rfl) (by simp) ?_
      refine AllReadyH.cons (o := _) rfl (fun K hK => ?_) AllReadyH.nil
      rw [if_pos (by rfl)]
      refine wp_stF 22 _ _ 4 (.int .u32 t.ak) rfl (by rfl) (by rfl) (by rfl) (show BlkV W.drew _ _ _ from B0) (by simp) (by kernel_rfl) rfl ?_
      intro wa Ba ha
      have B1a := (show BlkV W.drew _ _ _ from B1).only ha (by omega)
      refine hK.out _ _ (KF.out _ B1a) (fun hHeld => ?_)
      clear hK K
      try simp only [Act.put, List.setIfInBounds_toArray, List.set_cons_zero, List.set_cons_succ]
      refine wpAnyH_takeD (i := 9) (some 50) (v := ?_) rfl rfl (by kernel_rfl) (by kernel_rfl) (by kernel_rfl) (fun _ _ _ h => h) (Or.inl ⟨by rfl, ?_⟩) (by assumption) ?_
      rotate_left
      · (intro w hSw; (try dsimp only at hSw); go_simp; try with_reducible rfl)
      try simp only [Act.put, List.setIfInBounds_toArray, List.set_cons_zero, List.set_cons_succ]
      refine wpAnyH_ready (rs := [10]) (by kernel_rfl) (by simp) ?_
      refine AllReadyH.cons (o := _) rfl (fun K hK => ?_) AllReadyH.nil
      rw [if_pos (by rfl)]
      refine wp_stF 22 _ _ 5 (.int .u32 (Seq.later p.ne t.ak)) rfl (by rfl) (by rfl) (by rfl) Ba (by simp) (by kernel_rfl) rfl ?_
      intro wb Bb hb
      have B1b := B1a.only hb (by omega)
      refine hK.out _ _ (KF.out _ B1b) (fun hHeld => ?_)
      clear hK K
      try simp only [Act.put, List.setIfInBounds_toArray, List.set_cons_zero, List.set_cons_succ]
      refine wpAnyH_done (by kernel_rfl) ?_ _
      go_wp2_with fail
      go_meet
      exact ⟨BlkV.fit Bb rfl, B1b, ((show BlkV W.drew _ _ _ from B2).only ha (by omega)).only hb (by omega), ((show BlkV W.drew _ _ _ from B3).only ha (by omega)).only hb (by omega), hb.bel (by omega) (ha.bel (by omega) (bel_d hbW)), by rw [hb.size, ha.size]; exact hWs⟩
  case rest =>
  clear HM HPC HL m0 m1 m2 m3 m4 m5 m6 m7 m8 c3 c4 c9 B0 B1 B2 B3 hbW hWs
  obtain ⟨W1, rfl⟩ : ∃ W1, W1 = wc := ⟨wc, rfl⟩
  have HM := Lib.hid hcut
  obtain ⟨B0, B1, B2, B3, hbW, hWs⟩ := hcut
  obtain ⟨p2, hp2⟩ : ∃ p2, p2 = p1.let_ t := ⟨_, rfl⟩
  have HP2 := Lib.hid hp2
  clear hp2
  have m3 := cellF B1 3 rfl
  have c4 := cellF B0 4 rfl
  go_upto_if 55 with (fail)
  go_cut [] (fun wx => SpkM w p2 t wx)
  case first =>
    by_cases hq : t.ak = p1.un
    · have e := HP2.out
      unfold Peer.P.let_ at e
      rw [if_pos hq] at e
      subst e
      have m5 := cellF B1 5 rfl
      have hqb : (t.ak == p1.un) = true := by simpa using hq
      clear hq
      go_wp2_with (refine wpList_stF 3 _ _ 8 (.int .i64 t.wi) rfl (by with_reducible rfl) rfl (by rfl) (by rfl) B0 (by simp) (by kernel_rfl) rfl ?_; intro wa Ba ha)
      go_meet
      exact ⟨BlkV.fit Ba rfl, B1.only ha (by omega), B2.only ha (by omega), B3.only ha (by omega), ha.bel (by omega) hbW, by rw [ha.size]; exact hWs⟩
    · have e := HP2.out
      unfold Peer.P.let_ at e
      rw [if_neg hq] at e
      subst e
      have hqb : (t.ak == p2.un) = false := by simpa using hq
      clear hq
      go_wp2_with fail
      go_meet
      exact HM.out
  case rest =>
  clear HM m3 c4 B0 B1 B2 B3 hbW hWs
  obtain ⟨W2, rfl⟩ : ∃ W2, W2 = wc := ⟨wc, rfl⟩
  obtain ⟨B0, B1, B2, B3, hbW, hWs⟩ := hcut
  have hdg : p2.d = p.d ∧ p2.g = p.g := by
    rw [HP2.out, HP1.out]
    exact ⟨(Peer.let_dg _ _).1.trans (Peer.ack_dg _ _).1, (Peer.let_dg _ _).2.trans (Peer.ack_dg _ _).2⟩
  have HLT : Hid (∀ g, (Value.slice p2.g.A p2.g.n p2.g.c).ownBlock = some g → g < w.heap.size) := Lib.hid fun g hg => (HPQ.out.g.own.lt g (by rw [← hdg.2]; exact hg)).2
  have HCON : Hid (Pb.getC p2.con t.con = Pb.spokeC p.con t.con) := Lib.hid (by
    rw [HP2.out, HP1.out, Peer.let_con, Peer.ack_con HPQ.out.d.len]
    rfl)
  have HGet := Lib.hid (pget_spec p2 t w0 W2 (HB0.out.trans (hbW.mono HB0.out.size)) (own_eq (HPQ.out.below hbW) hdg.1 hdg.2) (by rw [hdg.1, hdg.2]; exact HX.out) (hr.below hbW) hB hn hc)
  have HROW : Hid ((Value.slice p2.g.A p2.g.n p2.g.c).ownBlock = (Value.slice p.g.A p.g.n p.g.c).ownBlock) := Lib.hid (by rw [hdg.2])
  clear hdg hr hB
  go_wp2_with (first | (refine wpList_ldB 26 _ _ (by with_reducible rfl) rfl (by rfl) (by assumption) Try.underlying26 rfl (peer_size (by rfl)) ?_) | (refine wpList_ldB 37 _ _ (by with_reducible rfl) rfl (by rfl) (by assumption) Try.underlying37 rfl (tcp_size (by rfl)) ?_))
  refine HGet.out.mono ?_
  rintro e w5 ⟨hb5, hg5, wa, B, n, k, rfl, oD, oG, ax, hG⟩
  have B0g := B0.grown hg5 (fun h => absurd (HLT.out _ h) (by omega))
  have B1g := B1.grown hg5 (fun h => absurd (HLT.out _ h) (by omega))
  have B2g := B2.grown hg5 (fun h => absurd (HLT.out _ h) (by omega))
  have B3g := B3.grown hg5 (fun h => absurd (HLT.out _ h) (by omega))
  have hs5 := hg5.size
  have HG5 := Lib.hid (bel_grown hbW (HROW.out ▸ hg5))
  have OD := Lib.hid oD
  have OG := Lib.hid oG
  have HG := Lib.hid hG
  have m8 := cellF B1g 8 rfl
  have hsw := HB0.out.size
  clear oD oG hG hg5 B0 B1 B2 B3 ax HGet HLT
  go_upto_region 11 with (first | (refine wpList_stB 26 _ _ (by with_reducible rfl) rfl (by rfl) _ (by rfl) (by assumption) (by rfl) (peer_size (by rfl)) (by rfl) ?_; intro wN BN hO))
  obtain ⟨p3, hp3⟩ : ∃ p3 : Peer.P, p3 = ⟨p2.st, p2.port, p2.to, p2.fi, p2.un, p2.ne, wa, p2.wi, p2.ot, p2.d, ⟨B, n, k, (Pb.getC p2.con t.con).g⟩⟩ := ⟨_, rfl⟩
  have BP : BlkV wN w.heap.size 26 [.int .i64 p3.st, .int .i64 p3.port, .int .i64 p3.to, .int .u32 p3.fi, .int .u32 p3.un, .int .u32 p3.ne, .int .u32 p3.wa, .int .i64 p3.wi, .int .i64 p3.ot, .slice p3.d.A p3.d.n p3.d.c, .slice p3.g.A p3.g.n p3.g.c] := by rw [hp3]; exact BN
  have B1n := B1g.only hO (by omega)
  have B2n := B2g.only hO (by omega)
  have B3n := B3g.only hO (by omega)
  have HOP : Hid (OwnP wN w0.heap.size p3) := Lib.hid (by rw [hp3]; exact ⟨OD.out.st B0g hO (by decide), OG.out.st B0g hO (by decide)⟩)
  have HC3 : Hid (p3.con = Pb.spokeC p.con t.con) := Lib.hid (by
    rw [← HCON.out, HG.out, hp3]
    rfl)
  have hbl : t.body.length = t.nb := HBL.out
  have HSP : Hid (Pb.speakC p.con t.con = (p3.con, if t.nb = 0 then none else some (Pb.nodC p3.con))) := Lib.hid (by
    rw [HC3.out]
    unfold Pb.speakC
    rw [if_neg (by simpa [Pb.fl_, Tcp.T.con] using hf), if_neg (by simpa [Pb.fl_, Tcp.T.con] using hf2), show t.con.body.length = t.nb from hbl])
  have HBN := Lib.hid (hO.bel (B := w0.heap.size) (a := w0) (by omega) hb5)
  have hsN := hO.size
  have HGN := Lib.hid (grown_only HG5.out hO (Nat.le_refl _))
  clear hp3 BN B0g B1g B2g B3g OD OG HG HCON hb5 hO m8 hbl HC3
  have m8 := cellF B1n 8 rfl
  by_cases hz : t.nb = 0
  · have HSZ : Hid (Pb.speakC p.con t.con = (p3.con, none)) := Lib.hid (by rw [HSP.out, if_pos hz])
    have hz' : (t.nb : Int) = 0 := by omega
    clear HSP
    go_wp2_with (first | (refine wpList_ldB 26 _ _ (by with_reducible rfl) rfl (by rfl) (by assumption) Try.underlying26 rfl (peer_size (by rfl)) ?_) | (refine wpList_stB 26 _ _ (by with_reducible rfl) rfl (by rfl) _ (by rfl) (by assumption) (by rfl) (peer_size (by rfl)) (by rfl) ?_; intro wN BN hO) | (refine wpList_stB 37 _ _ (by with_reducible rfl) rfl (by rfl) _ (by rfl) (B3n.only hO (by omega)) (by rfl) (tcp_size (by rfl)) (by rfl) ?_; intro wM BM hM))
    have BN' := BN.only hM (by omega)
    obtain ⟨r0, r1, r2, r3, r4, r5, r6, r7, r8, r9, r10⟩ := cells11 BN'
    obtain ⟨t0, t1, t2, t3, t4, t5, t6, t7, t8⟩ := cells9 BM
    exact bodyPost_ret (v := .tuple #[.agg #[.int .i64 p3.st, .int .i64 p3.port, .int .i64 p3.to, .int .u32 p3.fi, .int .u32 p3.un, .int .u32 p3.ne, .int .u32 p3.wa, .int .i64 p3.wi, .int .i64 p3.ot, .slice p3.d.A p3.d.n p3.d.c, .slice p3.g.A p3.g.n p3.g.c], .agg #[.int .i64 0, .int .i64 0, .int .u32 0, .int .u32 0, .int .i64 0, .int .i64 0, .int .i64 0, .slice none 0 0, .slice none 0 0], .bool false]) (by simp [results, Try.results27, go_sem, r0, r1, r2, r3, r4, r5, r6, r7, r8, r9, r10, t0, t1, t2, t3, t4, t5, t6, t7, t8]) rfl ⟨ptR_none (hM.bel (by omega) (hO.bel (by omega) HBN.out)) ((HOP.out.st B2n hO (by decide)).st (B3n.only hO (by omega)) hM (by decide)) (by rw [HSZ.out]) (by rw [HSZ.out]), grown_only (grown_only HGN.out hO (by omega)) hM (by omega)⟩
  · have HSZ : Hid (Pb.speakC p.con t.con = (p3.con, some (Pb.nodC p3.con))) := Lib.hid (by rw [HSP.out, if_neg hz])
    have hz' : ¬ (t.nb : Int) = 0 := by omega
    have HC := Lib.hid (pnod_spec p3 wN.drew)
    have KF : Hid (∀ w' : World, BlkV w' w.heap.size 26 [.int .i64 p3.st, .int .i64 p3.port, .int .i64 p3.to, .int .u32 p3.fi, .int .u32 p3.un, .int .u32 p3.ne, .int .u32 p3.wa, .int .i64 p3.wi, .int .i64 p3.ot, .slice p3.d.A p3.d.n p3.d.c, .slice p3.g.A p3.g.n p3.g.c] → (w'.cell? ⟨w.heap.size, 0, none⟩ = some (.int .i64 p3.st) ∧ w'.cell? ⟨w.heap.size, 1, none⟩ = some (.int .i64 p3.port) ∧ w'.cell? ⟨w.heap.size, 2, none⟩ = some (.int .i64 p3.to) ∧ w'.cell? ⟨w.heap.size, 3, none⟩ = some (.int .u32 p3.fi) ∧ w'.cell? ⟨w.heap.size, 4, none⟩ = some (.int .u32 p3.un) ∧ w'.cell? ⟨w.heap.size, 5, none⟩ = some (.int .u32 p3.ne) ∧ w'.cell? ⟨w.heap.size, 6, none⟩ = some (.int .u32 p3.wa) ∧ w'.cell? ⟨w.heap.size, 7, none⟩ = some (.int .i64 p3.wi) ∧ w'.cell? ⟨w.heap.size, 8, none⟩ = some (.int .i64 p3.ot) ∧ w'.cell? ⟨w.heap.size, 9, none⟩ = some (.slice p3.d.A p3.d.n p3.d.c) ∧ w'.cell? ⟨w.heap.size, 10, none⟩ = some (.slice p3.g.A p3.g.n p3.g.c))) := Lib.hid fun w' h => cells11 h
    clear HSP
    go_wp2_with fail
    refine wp_region_held_drew (S := fun w' => (w'.cell? ⟨w.heap.size, 0, none⟩ = some (.int .i64 p3.st) ∧ w'.cell? ⟨w.heap.size, 1, none⟩ = some (.int .i64 p3.port) ∧ w'.cell? ⟨w.heap.size, 2, none⟩ = some (.int .i64 p3.to) ∧ w'.cell? ⟨w.heap.size, 3, none⟩ = some (.int .u32 p3.fi) ∧ w'.cell? ⟨w.heap.size, 4, none⟩ = some (.int .u32 p3.un) ∧ w'.cell? ⟨w.heap.size, 5, none⟩ = some (.int .u32 p3.ne) ∧ w'.cell? ⟨w.heap.size, 6, none⟩ = some (.int .u32 p3.wa) ∧ w'.cell? ⟨w.heap.size, 7, none⟩ = some (.int .i64 p3.wi) ∧ w'.cell? ⟨w.heap.size, 8, none⟩ = some (.int .i64 p3.ot) ∧ w'.cell? ⟨w.heap.size, 9, none⟩ = some (.slice p3.d.A p3.d.n p3.d.c) ∧ w'.cell? ⟨w.heap.size, 10, none⟩ = some (.slice p3.g.A p3.g.n p3.g.c))) (by kernel_rfl) (KF.out _ BP) (fun hHeld => ?_)
    refine wpAnyH_takeD (i := 0) (some 68) (v := ?_) rfl rfl (by kernel_rfl) (by kernel_rfl) (by kernel_rfl) (fun _ _ _ h => h) (Or.inl ⟨by rfl, ?_⟩) (by assumption) ?_
    rotate_left
    · (intro w hSw; (try dsimp only at hSw); go_simp; try with_reducible rfl)
    try simp only [Act.put, List.setIfInBounds_toArray, List.set_cons_zero, List.set_cons_succ]
    refine wpAnyH_takeD (i := 1) (some 69) (v := ?_) rfl rfl (by kernel_rfl) (by kernel_rfl) (by kernel_rfl) (fun _ _ _ h => h) (Or.inl ⟨by rfl, ?_⟩) (by assumption) ?_
    rotate_left
    · (intro w hSw; (try dsimp only at hSw); go_simp; try with_reducible rfl)
    try simp only [Act.put, List.setIfInBounds_toArray, List.set_cons_zero, List.set_cons_succ]
    refine wpAnyH_ready (rs := [2]) (by kernel_rfl) (by simp) ?_
    refine AllReadyH.cons (o := _) rfl (fun K hK => ?_) AllReadyH.nil
    go_simp
    refine HC.out.mono ?_
    rintro e w6 ⟨hb6, A2, k2, rfl, hown2⟩
    have B0' := (show BlkV wN.drew _ _ _ from BP).below hb6
    have B2' := (show BlkV wN.drew _ _ _ from B2n).below hb6
    have B3' := (show BlkV wN.drew _ _ _ from B3n).below hb6
    have hs6 : wN.heap.size ≤ w6.heap.size := hb6.size
    have HP6 := Lib.hid (HOP.out.drew.below hb6)
    have HG6 := Lib.hid (grown_bel (w1 := wN.drew) ⟨HGN.out.os, HGN.out.tape, HGN.out.output, HGN.out.size, HGN.out.block⟩ hb6)
    have HB6 := Lib.hid ((bel_d HBN.out).trans (hb6.mono (show w0.heap.size ≤ wN.heap.size by omega)))
    go_wp2_with fail
    refine hK.out _ _ (KF.out _ B0') (fun hHeld => ?_)
    clear hK K
    try simp only [Act.put, List.setIfInBounds_toArray, List.set_cons_zero, List.set_cons_succ]
    simp only [Peer.nil] at hown2 ⊢
    refine wpAnyH_ready (rs := [3]) (by kernel_rfl) (by simp) ?_
    refine AllReadyH.cons (o := _) rfl (fun K hK => ?_) AllReadyH.nil
    rw [if_pos (by rfl)]
    refine wp_stB 26 _ _ rfl (by rfl) (by rfl) _ (by rfl) B2' (by rfl) (peer_size (by rfl)) (by rfl) ?_
    intro wO BO hO
    refine hK.out _ _ (KF.out _ (B0'.only hO (by omega))) (fun hHeld => ?_)
    clear hK K
    try simp only [Act.put, List.setIfInBounds_toArray, List.set_cons_zero, List.set_cons_succ]
    refine wpAnyH_ready (rs := [4]) (by kernel_rfl) (by simp) ?_
    refine AllReadyH.cons (o := _) rfl (fun K hK => ?_) AllReadyH.nil
    rw [if_pos (by rfl)]
    refine wp_stB 37 _ _ rfl (by rfl) (by rfl) _ (by rfl) (B3'.only hO (by omega)) (by rfl) (tcp_size (by rfl)) (by rfl) ?_
    intro wM BM hM
    refine hK.out _ _ (KF.out _ ((B0'.only hO (by omega)).only hM (by omega))) (fun hHeld => ?_)
    clear hK K
    try simp only [Act.put, List.setIfInBounds_toArray, List.set_cons_zero, List.set_cons_succ]
    refine wpAnyH_takeD (i := 5) (some 6) (v := ?_) rfl rfl (by kernel_rfl) (by kernel_rfl) (by kernel_rfl) (fun _ _ _ h => h) (Or.inl ⟨by rfl, ?_⟩) (by assumption) ?_
    rotate_left
    · (intro w hSw; (try dsimp only at hSw); go_simp; try with_reducible rfl)
    try simp only [Act.put, List.setIfInBounds_toArray, List.set_cons_zero, List.set_cons_succ]
    refine wpAnyH_done (by kernel_rfl) ?_ _
    have BN' := BO.only hM (by omega)
    obtain ⟨r0, r1, r2, r3, r4, r5, r6, r7, r8, r9, r10⟩ := cells11 BN'
    obtain ⟨t0, t1, t2, t3, t4, t5, t6, t7, t8⟩ := cells9 BM
    clear KF HC hHeld m8
    go_wp2_with fail
    exact bodyPost_ret (v := .tuple #[.agg #[.int .i64 p3.st, .int .i64 p3.port, .int .i64 p3.to, .int .u32 p3.fi, .int .u32 p3.un, .int .u32 p3.ne, .int .u32 p3.wa, .int .i64 p3.wi, .int .i64 p3.ot, .slice p3.d.A p3.d.n p3.d.c, .slice p3.g.A p3.g.n p3.g.c], .agg #[.int .i64 p3.port, .int .i64 p3.to, .int .u32 p3.ne, .int .u32 p3.wa, .int .i64 16, .int .i64 p3.wi, .int .i64 0, .slice none 0 0, .slice A2 0 k2], .bool true]) (by simp [results, Try.results27, go_sem, r0, r1, r2, r3, r4, r5, r6, r7, r8, r9, r10, t0, t1, t2, t3, t4, t5, t6, t7, t8]) rfl ⟨ptR_nod (hM.bel (by omega) (hO.bel (by omega) HB6.out)) ((HP6.out.st B2' hO (by decide)).st (B3'.only hO (by omega)) hM (by decide)) (own_weak (base := wN.drew.heap.size) (own_only (own_only hown2 hO (by show _ < wN.heap.size; omega)) hM (by show _ < wN.heap.size; omega)) (by show _ ≤ wN.heap.size; omega)) (by rw [HSZ.out]) (by rw [HSZ.out]), grown_only (grown_only HG6.out hO (by omega)) hM (by omega)⟩
end Go.Proofs.Ytihhcalgjkkalaa
