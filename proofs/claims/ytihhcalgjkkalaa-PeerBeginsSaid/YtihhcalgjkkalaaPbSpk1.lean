/- The walks of seq.Ahead and Later; of peer.speak where a first segment comes once more. -/
import Derived.Test.YtihhcalgjkkalaaPbGet
import Derived.Deep.DeepCutAuto
namespace Go.Proofs.Ytihhcalgjkkalaa
open Go.RowKit
set_option linter.unusedVariables false
set_option linter.unusedSimpArgs false
theorem seq_ahead (a b : Int) (w : World) :
    Calls Try.prog 35 #[.int .u32 a, .int .u32 b] w fun e w' => e = .returned (.bool (Seq.ahead a b)) ∧ w = w' := by
  have HD := Lib.hid (seq_dist b a)
  go_enter Try.func35, Try.ntmps35
  go_wp2_with ((with_reducible refine (HD.out _).mono ?_); rintro e w' ⟨rfl, rfl⟩)
  go_ret
  exact ⟨rfl, rfl⟩
theorem seq_later (a b : Int) (w : World) :
    Calls Try.prog 36 #[.int .u32 a, .int .u32 b] w fun e w' => e = .returned (.int .u32 (Seq.later a b)) ∧ w = w' := by
  obtain ⟨q, hq⟩ : ∃ q, Seq.ahead b a = q := ⟨_, rfl⟩
  have HA := Lib.hid (seq_ahead b a)
  rw [hq] at HA
  have HL : Hid (Seq.later a b = if q = true then b else a) := Lib.hid (by unfold Seq.later; rw [hq])
  rw [HL.out]
  clear HL hq
  cases q
  all_goals
    go_enter Try.func36, Try.ntmps36
    go_wp2_with ((with_reducible refine (HA.out _).mono ?_); rintro e w' ⟨rfl, rfl⟩)
    go_ret
    exact ⟨rfl, rfl⟩
theorem nod_con (p : Peer.P) (A : Option Addr) (c : Nat) : (⟨p.port, p.to, p.ne, p.wa, 16, p.wi, 0, none, 0, 0, A, 0, c, [], []⟩ : Tcp.T).con = Pb.nodC p.con := rfl
/-- a peer and its nod -/
theorem ptR_nod {p : Peer.P} {o : Pb.Pc × Option Pb.Tc} {w0 w' : World} {A : Option Addr} {c : Nat} (hb : Below w0.heap.size w0 w') (hp : OwnP w' w0.heap.size p) (ho : w'.ownsRow w0.heap.size 5 1 (.slice A 0 c) 0 []) (e1 : o.1 = p.con) (e2 : o.2 = some (Pb.nodC p.con)) :
    PtR w0.heap.size o w0 (.returned (.tuple #[.agg #[.int .i64 p.st, .int .i64 p.port, .int .i64 p.to, .int .u32 p.fi, .int .u32 p.un, .int .u32 p.ne, .int .u32 p.wa, .int .i64 p.wi, .int .i64 p.ot, .slice p.d.A p.d.n p.d.c, .slice p.g.A p.g.n p.g.c], .agg #[.int .i64 p.port, .int .i64 p.to, .int .u32 p.ne, .int .u32 p.wa, .int .i64 16, .int .i64 p.wi, .int .i64 0, .slice none 0 0, .slice A 0 c], .bool true])) w' := by
  refine ⟨hb, p, ⟨p.port, p.to, p.ne, p.wa, 16, p.wi, 0, none, 0, 0, A, 0, c, [], []⟩, ?_, hp, ⟨ho, (fun x hx => by cases hx), Nat.zero_le _⟩, e1.symm, ?_⟩
  · rw [e2]; rfl
  · rw [nod_con, e2]; rfl
theorem ptR_none {p : Peer.P} {o : Pb.Pc × Option Pb.Tc} {w0 w' : World} (hb : Below w0.heap.size w0 w') (hp : OwnP w' w0.heap.size p) (e1 : o.1 = p.con) (e2 : o.2 = none) :
    PtR w0.heap.size o w0 (.returned (.tuple #[.agg #[.int .i64 p.st, .int .i64 p.port, .int .i64 p.to, .int .u32 p.fi, .int .u32 p.un, .int .u32 p.ne, .int .u32 p.wa, .int .i64 p.wi, .int .i64 p.ot, .slice p.d.A p.d.n p.d.c, .slice p.g.A p.g.n p.g.c], .agg #[.int .i64 0, .int .i64 0, .int .u32 0, .int .u32 0, .int .i64 0, .int .i64 0, .int .i64 0, .slice none 0 0, .slice none 0 0], .bool false])) w' := by
  refine ⟨hb, p, ⟨0, 0, 0, 0, 0, 0, 0, none, 0, 0, none, 0, 0, [], []⟩, ?_, hp, own_none _ _, e1.symm, ?_⟩
  · rw [e2]; rfl
  · rw [e2]; rfl
theorem OwnS.st {w w' : World} {base g : Nat} {T : TypeId} {vs : List Value} {A : Option Addr} {n c : Nat} {l : List Int} (h : OwnS w base A n c l) (hB : BlkV w g T vs) (ho : OnlyB g w w') (hne : 5 ≠ T) : OwnS w' base A n c l := ⟨own_st h.own hB ho hne, h.isb, h.le⟩
theorem OwnP.st {w w' : World} {base g : Nat} {T : TypeId} {vs : List Value} {p : Peer.P} (h : OwnP w base p) (hB : BlkV w g T vs) (ho : OnlyB g w w') (hne : 5 ≠ T) : OwnP w' base p := ⟨h.d.st hB ho hne, h.g.st hB ho hne⟩
theorem grown_bel {w w1 w2 : World} {row : Option Nat} (h : w.grownBy w1 row) (k : Below w1.heap.size w1 w2) : w.grownBy w2 row :=
  ⟨k.os.trans h.os, k.tape.trans h.tape, k.output.trans h.output, Nat.le_trans h.size k.size, fun i hi hne => (k.block i (Nat.lt_of_lt_of_le hi h.size)).trans (h.block i hi hne)⟩
/-- an answer, and what of the memory stays -/
def PtR2 (w0 w : World) (row : Option Nat) (o : Pb.Pc × Option Pb.Tc) (e : Ending) (w' : World) : Prop := PtR w0.heap.size o w0 e w' ∧ w.grownBy w' row
theorem OwnS.drew {w : World} {base : Nat} {A : Option Addr} {n c : Nat} {l : List Int} (h : OwnS w base A n c l) : OwnS w.drew base A n c l := ⟨h.own, h.isb, h.le⟩
theorem OwnP.drew {w : World} {base : Nat} {p : Peer.P} (h : OwnP w base p) : OwnP w.drew base p := ⟨h.d.drew, h.g.drew⟩
set_option maxHeartbeats 4000000 in
theorem pspeak_syn (p : Peer.P) (t : Tcp.T) (w0 w : World) (hb0 : Below w0.heap.size w0 w) (hp : OwnP w w0.heap.size p) (hf : (Go.bits .and .i64 t.fl 2 != 0) = true) :
    Calls Try.prog 27 #[.agg #[.int .i64 p.st, .int .i64 p.port, .int .i64 p.to, .int .u32 p.fi, .int .u32 p.un, .int .u32 p.ne, .int .u32 p.wa, .int .i64 p.wi, .int .i64 p.ot, .slice p.d.A p.d.n p.d.c, .slice p.g.A p.g.n p.g.c], .agg #[.int .i64 t.sp, .int .i64 t.dp, .int .u32 t.sq, .int .u32 t.ak, .int .i64 t.fl, .int .i64 t.wi, .int .i64 t.ur, .slice t.Ao t.no t.co, .slice t.Ab t.nb t.cb]] w (PtR2 w0 w (Value.slice p.g.A p.g.n p.g.c).ownBlock (Pb.speakC p.con t.con)) := by
  obtain ⟨W, hW⟩ : ∃ W, W = (((w.alloc (.cells #[.int .i64 p.st, .int .i64 p.port, .int .i64 p.to, .int .u32 p.fi, .int .u32 p.un, .int .u32 p.ne, .int .u32 p.wa, .int .i64 p.wi, .int .i64 p.ot, .slice p.d.A p.d.n p.d.c, .slice p.g.A p.g.n p.g.c] 26)).alloc (.cells #[.int .i64 t.sp, .int .i64 t.dp, .int .u32 t.sq, .int .u32 t.ak, .int .i64 t.fl, .int .i64 t.wi, .int .i64 t.ur, .slice t.Ao t.no t.co, .slice t.Ab t.nb t.cb] 37)).alloc (.cells #[.int .i64 0, .int .i64 0, .int .i64 0, .int .u32 0, .int .u32 0, .int .u32 0, .int .u32 0, .int .i64 0, .int .i64 0, .slice none 0 0, .slice none 0 0] 26)).alloc (.cells #[.int .i64 0, .int .i64 0, .int .u32 0, .int .u32 0, .int .i64 0, .int .i64 0, .int .i64 0, .slice none 0 0, .slice none 0 0] 37) := ⟨_, rfl⟩
  have hbW : Below w.heap.size w W := (by rw [hW]; exact ((((Below.refl _ _).alloc (Nat.le_refl _) _).alloc (by simp) _).alloc (by simp; omega) _).alloc (by simp; omega) _)
  have hWs : W.heap.size = w.heap.size + 4 := (by rw [hW]; simp)
  have B0 : BlkV W w.heap.size 26 [.int .i64 p.st, .int .i64 p.port, .int .i64 p.to, .int .u32 p.fi, .int .u32 p.un, .int .u32 p.ne, .int .u32 p.wa, .int .i64 p.wi, .int .i64 p.ot, .slice p.d.A p.d.n p.d.c, .slice p.g.A p.g.n p.g.c] := (by rw [hW]; exact (((BlkV.new w _ _).alloc _).alloc _).alloc _)
  have B1 : BlkV W (w.heap.size + 1) 37 [.int .i64 t.sp, .int .i64 t.dp, .int .u32 t.sq, .int .u32 t.ak, .int .i64 t.fl, .int .i64 t.wi, .int .i64 t.ur, .slice t.Ao t.no t.co, .slice t.Ab t.nb t.cb] := (by rw [hW]; exact ((BlkV.new_at (w.alloc (.cells #[.int .i64 p.st, .int .i64 p.port, .int .i64 p.to, .int .u32 p.fi, .int .u32 p.un, .int .u32 p.ne, .int .u32 p.wa, .int .i64 p.wi, .int .i64 p.ot, .slice p.d.A p.d.n p.d.c, .slice p.g.A p.g.n p.g.c] 26)) _ _ (by simp)).alloc _).alloc _)
  have B2 : BlkV W (w.heap.size + 1 + 1) 26 [.int .i64 0, .int .i64 0, .int .i64 0, .int .u32 0, .int .u32 0, .int .u32 0, .int .u32 0, .int .i64 0, .int .i64 0, .slice none 0 0, .slice none 0 0] := (by rw [hW]; exact (BlkV.new_at ((w.alloc (.cells #[.int .i64 p.st, .int .i64 p.port, .int .i64 p.to, .int .u32 p.fi, .int .u32 p.un, .int .u32 p.ne, .int .u32 p.wa, .int .i64 p.wi, .int .i64 p.ot, .slice p.d.A p.d.n p.d.c, .slice p.g.A p.g.n p.g.c] 26)).alloc (.cells #[.int .i64 t.sp, .int .i64 t.dp, .int .u32 t.sq, .int .u32 t.ak, .int .i64 t.fl, .int .i64 t.wi, .int .i64 t.ur, .slice t.Ao t.no t.co, .slice t.Ab t.nb t.cb] 37)) _ _ (by simp)).alloc _)
  have B3 : BlkV W (w.heap.size + 1 + 1 + 1) 37 [.int .i64 0, .int .i64 0, .int .u32 0, .int .u32 0, .int .i64 0, .int .i64 0, .int .i64 0, .slice none 0 0, .slice none 0 0] := (by rw [hW]; exact (BlkV.new_at (((w.alloc (.cells #[.int .i64 p.st, .int .i64 p.port, .int .i64 p.to, .int .u32 p.fi, .int .u32 p.un, .int .u32 p.ne, .int .u32 p.wa, .int .i64 p.wi, .int .i64 p.ot, .slice p.d.A p.d.n p.d.c, .slice p.g.A p.g.n p.g.c] 26)).alloc (.cells #[.int .i64 t.sp, .int .i64 t.dp, .int .u32 t.sq, .int .u32 t.ak, .int .i64 t.fl, .int .i64 t.wi, .int .i64 t.ur, .slice t.Ao t.no t.co, .slice t.Ab t.nb t.cb] 37)).alloc (.cells #[.int .i64 0, .int .i64 0, .int .i64 0, .int .u32 0, .int .u32 0, .int .u32 0, .int .u32 0, .int .i64 0, .int .i64 0, .slice none 0 0, .slice none 0 0] 26)) _ _ (by simp)))
  have HC := Lib.hid (pnod_spec p W.drew)
  have KF : Hid (∀ w' : World, BlkV w' w.heap.size 26 [.int .i64 p.st, .int .i64 p.port, .int .i64 p.to, .int .u32 p.fi, .int .u32 p.un, .int .u32 p.ne, .int .u32 p.wa, .int .i64 p.wi, .int .i64 p.ot, .slice p.d.A p.d.n p.d.c, .slice p.g.A p.g.n p.g.c] → (w'.cell? ⟨w.heap.size, 0, none⟩ = some (.int .i64 p.st) ∧ w'.cell? ⟨w.heap.size, 1, none⟩ = some (.int .i64 p.port) ∧ w'.cell? ⟨w.heap.size, 2, none⟩ = some (.int .i64 p.to) ∧ w'.cell? ⟨w.heap.size, 3, none⟩ = some (.int .u32 p.fi) ∧ w'.cell? ⟨w.heap.size, 4, none⟩ = some (.int .u32 p.un) ∧ w'.cell? ⟨w.heap.size, 5, none⟩ = some (.int .u32 p.ne) ∧ w'.cell? ⟨w.heap.size, 6, none⟩ = some (.int .u32 p.wa) ∧ w'.cell? ⟨w.heap.size, 7, none⟩ = some (.int .i64 p.wi) ∧ w'.cell? ⟨w.heap.size, 8, none⟩ = some (.int .i64 p.ot) ∧ w'.cell? ⟨w.heap.size, 9, none⟩ = some (.slice p.d.A p.d.n p.d.c) ∧ w'.cell? ⟨w.heap.size, 10, none⟩ = some (.slice p.g.A p.g.n p.g.c))) := Lib.hid fun w' h => cells11 h
  have m4 := cellF B1 4 rfl
  have HSP : Hid (Pb.speakC p.con t.con = (p.con, some (Pb.nodC p.con))) := Lib.hid (by
    unfold Pb.speakC
    rw [if_pos (by simpa [Pb.fl_, Tcp.T.con] using hf)])
  have HP := Lib.hid (hp.below hbW)
  have HB := Lib.hid (hb0.trans (hbW.mono hb0.size))
  have hsw := hb0.size
  clear hb0 hp
  go_enter Try.func27, Try.ntmps27
  go_upto_region 1 with (fail)
  rw [← hW]
  clear hW
  go_wp2_with fail
  refine wp_region_held_drew (S := fun w' => (w'.cell? ⟨w.heap.size, 0, none⟩ = some (.int .i64 p.st) ∧ w'.cell? ⟨w.heap.size, 1, none⟩ = some (.int .i64 p.port) ∧ w'.cell? ⟨w.heap.size, 2, none⟩ = some (.int .i64 p.to) ∧ w'.cell? ⟨w.heap.size, 3, none⟩ = some (.int .u32 p.fi) ∧ w'.cell? ⟨w.heap.size, 4, none⟩ = some (.int .u32 p.un) ∧ w'.cell? ⟨w.heap.size, 5, none⟩ = some (.int .u32 p.ne) ∧ w'.cell? ⟨w.heap.size, 6, none⟩ = some (.int .u32 p.wa) ∧ w'.cell? ⟨w.heap.size, 7, none⟩ = some (.int .i64 p.wi) ∧ w'.cell? ⟨w.heap.size, 8, none⟩ = some (.int .i64 p.ot) ∧ w'.cell? ⟨w.heap.size, 9, none⟩ = some (.slice p.d.A p.d.n p.d.c) ∧ w'.cell? ⟨w.heap.size, 10, none⟩ = some (.slice p.g.A p.g.n p.g.c))) (by kernel_rfl) (KF.out _ B0) (fun hHeld => ?_)
  refine wpAnyH_takeD (i := 0) (some 13) (v := ?_) rfl rfl (by kernel_rfl) (by kernel_rfl) (by kernel_rfl) (fun _ _ _ h => h) (Or.inl ⟨by rfl, ?_⟩) (by assumption) ?_
  rotate_left
  · (intro w hSw; (try dsimp only at hSw); go_simp; try with_reducible rfl)
  try simp only [Act.put, List.setIfInBounds_toArray, List.set_cons_zero, List.set_cons_succ]
  refine wpAnyH_takeD (i := 1) (some 14) (v := ?_) rfl rfl (by kernel_rfl) (by kernel_rfl) (by kernel_rfl) (fun _ _ _ h => h) (Or.inl ⟨by rfl, ?_⟩) (by assumption) ?_
  rotate_left
  · (intro w hSw; (try dsimp only at hSw); go_simp; try with_reducible rfl)
  try simp only [Act.put, List.setIfInBounds_toArray, List.set_cons_zero, List.set_cons_succ]
  refine wpAnyH_ready (rs := [2]) (by kernel_rfl) (by simp) ?_
  refine AllReadyH.cons (o := _) rfl (fun K hK => ?_) AllReadyH.nil
  go_simp
  refine HC.out.mono ?_
  rintro e w2 ⟨hb2, A2, k2, rfl, hown2⟩
  have B0' := (show BlkV W.drew _ _ _ from B0).below hb2
  have B2' := (show BlkV W.drew _ _ _ from B2).below hb2
  have B3' := (show BlkV W.drew _ _ _ from B3).below hb2
  have hs2 : W.heap.size ≤ w2.heap.size := hb2.size
  have HP2 := Lib.hid (HP.out.drew.below hb2)
  have HW2 := Lib.hid (bel_then (bel_d hbW) hb2)
  have HB2 := Lib.hid ((bel_d HB.out).trans (hb2.mono (show w0.heap.size ≤ W.heap.size by omega)))
  go_wp2_with fail
  refine hK.out _ _ (KF.out _ B0') (fun hHeld => ?_)
  clear hK K
  try simp only [Act.put, List.setIfInBounds_toArray, List.set_cons_zero, List.set_cons_succ]
  simp only [Peer.nil] at hown2 ⊢
  refine wpAnyH_ready (rs := [3]) (by kernel_rfl) (by simp) ?_
  refine AllReadyH.cons (o := _) rfl (fun K hK => ?_) AllReadyH.nil
  rw [if_pos (by rfl)]
  refine wp_stB 26 _ _ rfl (by rfl) (by rfl) _ (by rfl) B2' (by rfl) (peer_size (by rfl)) (by rfl) ?_
  intro wN BN hO
  refine hK.out _ _ (KF.out _ (B0'.only hO (by omega))) (fun hHeld => ?_)
  clear hK K
  try simp only [Act.put, List.setIfInBounds_toArray, List.set_cons_zero, List.set_cons_succ]
  refine wpAnyH_ready (rs := [4]) (by kernel_rfl) (by simp) ?_
  refine AllReadyH.cons (o := _) rfl (fun K hK => ?_) AllReadyH.nil
  rw [if_pos (by rfl)]
  refine wp_stB 37 _ _ rfl (by rfl) (by rfl) _ (by rfl) (B3'.only hO (by omega)) (by rfl) (tcp_size (by rfl)) (by rfl) ?_
  intro wM BM hM
  refine hK.out _ _ (KF.out _ ((B0'.only hO (by omega)).only hM (by omega))) (fun hHeld => ?_)
  clear hK K
  try simp only [Act.put, List.setIfInBounds_toArray, List.set_cons_zero, List.set_cons_succ]
  refine wpAnyH_takeD (i := 5) (some 6) (v := ?_) rfl rfl (by kernel_rfl) (by kernel_rfl) (by kernel_rfl) (fun _ _ _ h => h) (Or.inl ⟨by rfl, ?_⟩) (by assumption) ?_
  rotate_left
  · (intro w hSw; (try dsimp only at hSw); go_simp; try with_reducible rfl)
  try simp only [Act.put, List.setIfInBounds_toArray, List.set_cons_zero, List.set_cons_succ]
  refine wpAnyH_done (by kernel_rfl) ?_ _
  have BN' := BN.only hM (by omega)
  obtain ⟨r0, r1, r2, r3, r4, r5, r6, r7, r8, r9, r10⟩ := cells11 BN'
  obtain ⟨t0, t1, t2, t3, t4, t5, t6, t7, t8⟩ := cells9 BM
  clear KF HC hHeld m4
  go_wp2_with fail
  exact bodyPost_ret (v := .tuple #[.agg #[.int .i64 p.st, .int .i64 p.port, .int .i64 p.to, .int .u32 p.fi, .int .u32 p.un, .int .u32 p.ne, .int .u32 p.wa, .int .i64 p.wi, .int .i64 p.ot, .slice p.d.A p.d.n p.d.c, .slice p.g.A p.g.n p.g.c], .agg #[.int .i64 p.port, .int .i64 p.to, .int .u32 p.ne, .int .u32 p.wa, .int .i64 16, .int .i64 p.wi, .int .i64 0, .slice none 0 0, .slice A2 0 k2], .bool true]) (by simp [results, Try.results27, go_sem, r0, r1, r2, r3, r4, r5, r6, r7, r8, r9, r10, t0, t1, t2, t3, t4, t5, t6, t7, t8]) rfl ⟨ptR_nod (hM.bel (by omega) (hO.bel (by omega) HB2.out)) ((HP2.out.st B2' hO (by decide)).st (B3'.only hO (by omega)) hM (by decide)) (own_weak (base := W.drew.heap.size) (own_only (own_only hown2 hO (by show _ < W.heap.size; omega)) hM (by show _ < W.heap.size; omega)) (by show _ ≤ W.heap.size; omega)) (by rw [HSP.out]) (by rw [HSP.out]), grown_none (hM.bel (by omega) (hO.bel (by omega) HW2.out))⟩
end Go.Proofs.Ytihhcalgjkkalaa
