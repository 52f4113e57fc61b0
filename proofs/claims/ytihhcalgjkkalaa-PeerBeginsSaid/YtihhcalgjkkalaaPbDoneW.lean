/- The walks of peer.Again and peer.Done, of one that is right. -/
import Derived.Test.YtihhcalgjkkalaaPbSpk1
import Derived.Test.YtihhcalgjkkalaaQuietBel
namespace Go.Proofs.Ytihhcalgjkkalaa
open Go.RowKit
set_option linter.unusedVariables false
set_option linter.unusedSimpArgs false
/-- a peer with bytes of its own -/
def AgR (o : Pb.Pc) (w : World) (e : Ending) (w' : World) : Prop :=
  Below w.heap.size w w' ∧ ∃ p : Peer.P, e = .returned (.agg #[.int .i64 p.st, .int .i64 p.port, .int .i64 p.to, .int .u32 p.fi, .int .u32 p.un, .int .u32 p.ne, .int .u32 p.wa, .int .i64 p.wi, .int .i64 p.ot, .slice p.d.A p.d.n p.d.c, .slice p.g.A p.g.n p.g.c]) ∧ OwnP w' w.heap.size p ∧ p.con = o
theorem agR_mk {p : Peer.P} {o : Pb.Pc} {w w' : World} {A B : Option Addr} {c k : Nat} {ne : Int} (hb : Below w.heap.size w w') (oA : OwnS w' w.heap.size A p.d.n c p.d.l) (oB : OwnS w' w.heap.size B p.g.n k p.g.l) (h : o = { p.con with ne := ne }) : AgR o w (.returned (.agg #[.int .i64 p.st, .int .i64 p.port, .int .i64 p.to, .int .u32 p.fi, .int .u32 p.un, .int .u32 ne, .int .u32 p.wa, .int .i64 p.wi, .int .i64 p.ot, .slice A p.d.n c, .slice B p.g.n k])) w' :=
  ⟨hb, ⟨p.st, p.port, p.to, p.fi, p.un, ne, p.wa, p.wi, p.ot, ⟨A, p.d.n, c, p.d.l⟩, ⟨B, p.g.n, k, p.g.l⟩⟩, rfl, ⟨oA, oB⟩, h.symm⟩
set_option maxHeartbeats 4000000 in
theorem pagain_spec (p : Peer.P) (w : World) (base : Nat) (hp : OwnP w base p) (hr : Pb.rightC p.con = true) :
    Calls Try.prog 28 #[.agg #[.int .i64 p.st, .int .i64 p.port, .int .i64 p.to, .int .u32 p.fi, .int .u32 p.un, .int .u32 p.ne, .int .u32 p.wa, .int .i64 p.wi, .int .i64 p.ot, .slice p.d.A p.d.n p.d.c, .slice p.g.A p.g.n p.g.c]] w (AgR (Pb.againC p.con) w) := by
  obtain ⟨W, hW⟩ : ∃ W, W = (w.alloc (.cells #[.int .i64 p.st, .int .i64 p.port, .int .i64 p.to, .int .u32 p.fi, .int .u32 p.un, .int .u32 p.ne, .int .u32 p.wa, .int .i64 p.wi, .int .i64 p.ot, .slice p.d.A p.d.n p.d.c, .slice p.g.A p.g.n p.g.c] 26)).alloc (.cells #[.int .i64 0, .int .i64 0, .int .i64 0, .int .u32 0, .int .u32 0, .int .u32 0, .int .u32 0, .int .i64 0, .int .i64 0, .slice none 0 0, .slice none 0 0] 26) := ⟨_, rfl⟩
  have hbW : Below w.heap.size w W := by rw [hW]; exact ((Below.refl _ _).alloc (Nat.le_refl _) _).alloc (by simp) _
  have hWs : W.heap.size = w.heap.size + 2 := by rw [hW]; simp
  have B0 : BlkV W w.heap.size 26 [.int .i64 p.st, .int .i64 p.port, .int .i64 p.to, .int .u32 p.fi, .int .u32 p.un, .int .u32 p.ne, .int .u32 p.wa, .int .i64 p.wi, .int .i64 p.ot, .slice p.d.A p.d.n p.d.c, .slice p.g.A p.g.n p.g.c] := by rw [hW]; exact (BlkV.new w _ _).alloc _
  have B1 : BlkV W (w.heap.size + 1) 26 [.int .i64 0, .int .i64 0, .int .i64 0, .int .u32 0, .int .u32 0, .int .u32 0, .int .u32 0, .int .i64 0, .int .i64 0, .slice none 0 0, .slice none 0 0] := by rw [hW]; exact BlkV.new_at (w.alloc (.cells #[.int .i64 p.st, .int .i64 p.port, .int .i64 p.to, .int .u32 p.fi, .int .u32 p.un, .int .u32 p.ne, .int .u32 p.wa, .int .i64 p.wi, .int .i64 p.ot, .slice p.d.A p.d.n p.d.c, .slice p.g.A p.g.n p.g.c] 26)) _ _ (by simp)
  have hdn : p.d.n ≤ 9223372036854775806 := Nat.le_trans hp.d.le (by decide)
  have HC := Lib.hid (pcopied2_spec p W ⟨⟨hp.d.rd.below hbW, hp.d.isb, Nat.le_trans hp.d.le (by decide)⟩, ⟨hp.g.rd.below hbW, hp.g.isb, Nat.le_trans hp.g.le (by decide)⟩⟩ (Nat.le_trans hp.d.le (by decide)) (Nat.le_trans hp.g.le (by decide)))
  have HRT := Lib.hid ((Peer.right_con hp.d.len hp.g.len).trans hr)
  have HP := Lib.hid hp
  obtain ⟨q, hq⟩ : ∃ q, (p.st == 4) = q := ⟨_, rfl⟩
  have HAG : Hid (Pb.againC p.con = { p.con with ne := if q = true then p.un else p.ne }) := Lib.hid (by
    unfold Pb.againC
    by_cases h : p.st = 4
    · rw [if_pos (show p.con.st = 4 from h)]
      have : q = true := by rw [← hq]; simpa using h
      rw [if_pos this]
      rfl
    · rw [if_neg (show ¬ p.con.st = 4 from h)]
      have : ¬ q = true := by rw [← hq]; simpa using h
      rw [if_neg this]
      rfl)
  clear hr hp
  cases q
  all_goals
    go_enter Try.func28, Try.ntmps28
    go_upto_region 1 with (fail)
    rw [← hW]
    clear hW
    go_wp2_with (refine wpList_ldB 26 _ _ (by with_reducible rfl) rfl (by rfl) (by assumption) Try.underlying26 rfl (peer_size (by rfl)) ?_)
    refine HC.out.mono ?_
    rintro e w1 ⟨hb1, A, c, B, k, rfl, oA, oB, oX⟩
    have B0' := B0.below hb1
    have B1' := B1.below hb1
    have OA := Lib.hid oA
    have OB := Lib.hid oB
    have HR := Lib.hid (fun w => pright_spec (p.with_ A c B k) w hdn)
    rw [Peer.right_with, HRT.out] at HR
    have hs1 := hb1.size
    clear B0 B1 oA oB HC oX
    go_upto_region 2 with (first | (refine wpList_stB 26 _ _ (by with_reducible rfl) rfl (by rfl) _ (by rfl) (by assumption) (by rfl) (peer_size (by rfl)) (by rfl) ?_; intro wN BN hO))
    have B1 := B1'.only hO (by omega)
    have hbN := hO.bel (by omega) (bel_then hbW hb1)
    have hsN := hO.size
    have OA2 := Lib.hid (own_only OA.out hO (by omega))
    have OB2 := Lib.hid (own_only OB.out hO (by omega))
    clear B0' B1' OA OB
    go_wp2_with (first | (refine wpList_ldB 26 _ _ (by with_reducible rfl) rfl (by rfl) (by assumption) Try.underlying26 rfl (peer_size (by rfl)) ?_))
    refine (HR.out wN).mono ?_
    rintro e w3 ⟨rfl, hb3⟩
    have B0' := BN.below hb3
    have B1' := B1.below hb3
    have OA4 := Lib.hid (own_below OA2.out hb3)
    have OB4 := Lib.hid (own_below OB2.out hb3)
    have hb3' := bel_then hbN hb3
    have hs3 := hb3.size
    clear BN B1 OA2 OB2 HR hO
    have c0 := cellF B0' 0 rfl
    have c4 := cellF B0' 4 rfl
  · go_wp2_with (first | (refine wpList_ldB 26 _ _ (by with_reducible rfl) rfl (by rfl) (by assumption) Try.underlying26 rfl (peer_size (by rfl)) ?_) | (refine wpList_stB 26 _ _ (by with_reducible rfl) rfl (by rfl) _ (by rfl) (by assumption) (by rfl) (peer_size (by rfl)) (by rfl) ?_; intro wN BN hO))
    obtain ⟨r0, r1, r2, r3, r4, r5, r6, r7, r8, r9, r10⟩ := cells11 BN
    exact bodyPost_ret (v := .agg #[.int .i64 p.st, .int .i64 p.port, .int .i64 p.to, .int .u32 p.fi, .int .u32 p.un, .int .u32 p.ne, .int .u32 p.wa, .int .i64 p.wi, .int .i64 p.ot, .slice A p.d.n c, .slice B p.g.n k]) (by simp [results, Try.results28, go_sem, r0, r1, r2, r3, r4, r5, r6, r7, r8, r9, r10]) rfl (agR_mk (hO.bel (by omega) hb3') ⟨own_weak (own_only OA4.out hO (by omega)) (by omega), HP.out.d.isb, HP.out.d.le⟩ ⟨own_weak (own_only OB4.out hO (by omega)) (by omega), HP.out.g.isb, HP.out.g.le⟩ (by rw [HAG.out]; rfl))
  · go_wp2_with (first | (refine wpList_stF 22 _ _ 5 (.int .u32 p.un) rfl (by with_reducible rfl) rfl (by rfl) (by rfl) B0' (by simp) (by kernel_rfl) rfl ?_; intro wF BF0 hF; have BF := BlkV.fit BF0 (m := [.int .i64 p.st, .int .i64 p.port, .int .i64 p.to, .int .u32 p.fi, .int .u32 p.un, .int .u32 p.un, .int .u32 p.wa, .int .i64 p.wi, .int .i64 p.ot, .slice A p.d.n c, .slice B p.g.n k]) rfl) | (refine wpList_ldB 26 _ _ (by with_reducible rfl) rfl (by rfl) BF Try.underlying26 rfl (peer_size (by rfl)) ?_) | (refine wpList_stB 26 _ _ (by with_reducible rfl) rfl (by rfl) _ (by rfl) (B1'.only hF (by omega)) (by rfl) (peer_size (by rfl)) (by rfl) ?_; intro wN BN hO))
    obtain ⟨r0, r1, r2, r3, r4, r5, r6, r7, r8, r9, r10⟩ := cells11 BN
    exact bodyPost_ret (v := .agg #[.int .i64 p.st, .int .i64 p.port, .int .i64 p.to, .int .u32 p.fi, .int .u32 p.un, .int .u32 p.un, .int .u32 p.wa, .int .i64 p.wi, .int .i64 p.ot, .slice A p.d.n c, .slice B p.g.n k]) (by simp [results, Try.results28, go_sem, r0, r1, r2, r3, r4, r5, r6, r7, r8, r9, r10]) rfl (agR_mk (hO.bel (by omega) (hF.bel (by omega) hb3')) ⟨own_weak (own_only (own_only OA4.out hF (by omega)) hO (by omega)) (by omega), HP.out.d.isb, HP.out.d.le⟩ ⟨own_weak (own_only (own_only OB4.out hF (by omega)) hO (by omega)) (by omega), HP.out.g.isb, HP.out.g.le⟩ (by rw [HAG.out]; rfl))
set_option maxHeartbeats 4000000 in
theorem pdone_spec (p : Peer.P) (w : World) (base : Nat) (hp : OwnP w base p) (hr : Pb.rightC p.con = true) :
    Calls Try.prog 17 #[.agg #[.int .i64 p.st, .int .i64 p.port, .int .i64 p.to, .int .u32 p.fi, .int .u32 p.un, .int .u32 p.ne, .int .u32 p.wa, .int .i64 p.wi, .int .i64 p.ot, .slice p.d.A p.d.n p.d.c, .slice p.g.A p.g.n p.g.c]] w fun e w' => e = .returned (.bool (Pb.doneC p.con)) ∧ Below w.heap.size w w' := by
  obtain ⟨W, hW⟩ : ∃ W, W = w.alloc (.cells #[.int .i64 p.st, .int .i64 p.port, .int .i64 p.to, .int .u32 p.fi, .int .u32 p.un, .int .u32 p.ne, .int .u32 p.wa, .int .i64 p.wi, .int .i64 p.ot, .slice p.d.A p.d.n p.d.c, .slice p.g.A p.g.n p.g.c] 26) := ⟨_, rfl⟩
  have hbW : Below w.heap.size w W := by rw [hW]; exact (Below.refl _ _).alloc (Nat.le_refl _) _
  have B0 : BlkV W w.heap.size 26 [.int .i64 p.st, .int .i64 p.port, .int .i64 p.to, .int .u32 p.fi, .int .u32 p.un, .int .u32 p.ne, .int .u32 p.wa, .int .i64 p.wi, .int .i64 p.ot, .slice p.d.A p.d.n p.d.c, .slice p.g.A p.g.n p.g.c] := by rw [hW]; exact BlkV.new w _ _
  have hdn : p.d.n ≤ 9223372036854775806 := Nat.le_trans hp.d.le (by decide)
  have hdl := hp.d.le
  have HR := Lib.hid (fun w => pright_spec p w hdn)
  rw [(Peer.right_con hp.d.len hp.g.len).trans hr] at HR
  have HD := Lib.hid (fun w => (seq_dist p.fi p.un w).mono (R' := fun e w' => e = .returned (.int .i64 (Seq.dist p.fi p.un)) ∧ Below w.heap.size w w') fun e w' ⟨h1, h2⟩ => ⟨h1, h2 ▸ Below.refl _ _⟩)
  have HDN : Hid (Pb.doneC p.con = (decide (p.st = 4) && decide (Seq.dist p.fi p.un = (p.d.n : Int) + 1))) := Lib.hid (by
    unfold Pb.doneC
    show (decide (p.st = 4) && decide (Seq.dist p.fi p.un = (p.d.l.length : Int) + 1)) = _
    rw [hp.d.len])
  have hw : IntKind.i64.wrap ((p.d.n : Int) + 1) = (p.d.n : Int) + 1 := by rw [IntKind.wrap_i64]; omega
  generalize Seq.dist p.fi p.un = x at HD HDN
  obtain ⟨q, hq⟩ : ∃ q, (p.st == 4) = q := ⟨_, rfl⟩
  obtain ⟨z, hz⟩ : ∃ z, (x == (p.d.n : Int) + 1) = z := ⟨_, rfl⟩
  have HV : Hid (Pb.doneC p.con = (q && z)) := Lib.hid (by
    rw [HDN.out, ← hq, ← hz]
    congr 1)
  rw [HV.out]
  clear HV HDN hp hr
  have a0 : ∀ b : BelBy W, b.v.cell? ⟨w.heap.size, 0, none⟩ = some (.int .i64 p.st) := fun b => cellF (B0.below b.h) 0 rfl
  have a1 : ∀ b : BelBy W, b.v.cell? ⟨w.heap.size, 1, none⟩ = some (.int .i64 p.port) := fun b => cellF (B0.below b.h) 1 rfl
  have a2 : ∀ b : BelBy W, b.v.cell? ⟨w.heap.size, 2, none⟩ = some (.int .i64 p.to) := fun b => cellF (B0.below b.h) 2 rfl
  have a3 : ∀ b : BelBy W, b.v.cell? ⟨w.heap.size, 3, none⟩ = some (.int .u32 p.fi) := fun b => cellF (B0.below b.h) 3 rfl
  have a4 : ∀ b : BelBy W, b.v.cell? ⟨w.heap.size, 4, none⟩ = some (.int .u32 p.un) := fun b => cellF (B0.below b.h) 4 rfl
  have a5 : ∀ b : BelBy W, b.v.cell? ⟨w.heap.size, 5, none⟩ = some (.int .u32 p.ne) := fun b => cellF (B0.below b.h) 5 rfl
  have a6 : ∀ b : BelBy W, b.v.cell? ⟨w.heap.size, 6, none⟩ = some (.int .u32 p.wa) := fun b => cellF (B0.below b.h) 6 rfl
  have a7 : ∀ b : BelBy W, b.v.cell? ⟨w.heap.size, 7, none⟩ = some (.int .i64 p.wi) := fun b => cellF (B0.below b.h) 7 rfl
  have a8 : ∀ b : BelBy W, b.v.cell? ⟨w.heap.size, 8, none⟩ = some (.int .i64 p.ot) := fun b => cellF (B0.below b.h) 8 rfl
  have a9 : ∀ b : BelBy W, b.v.cell? ⟨w.heap.size, 9, none⟩ = some (.slice p.d.A p.d.n p.d.c) := fun b => cellF (B0.below b.h) 9 rfl
  have a10 : ∀ b : BelBy W, b.v.cell? ⟨w.heap.size, 10, none⟩ = some (.slice p.g.A p.g.n p.g.c) := fun b => cellF (B0.below b.h) 10 rfl
  cases q <;> cases z
  all_goals
    go_enter Try.func17, Try.ntmps17
    go_upto_region 1 with (fail)
    rw [← hW]
    clear hW
    refine wp_region_quiet_bel (by kernel_rfl) (by kernel_rfl) ?_
    repeat (go_big_quiet_step (with_reducible first | exact calls_bel (HR.out (BelBy.v _)) | exact calls_bel (HD.out (BelBy.v _))))
    refine wpQuiet_nil ?_
    intro _ hw'
    obtain ⟨⟨wq, hbq⟩, hw''⟩ := hw'
    have hw3 : _ = wq := hw''
    clear hw''
    subst hw3
    go_wp2_with fail
    go_ret
    exact ⟨rfl, bel_then hbW hbq⟩
end Go.Proofs.Ytihhcalgjkkalaa
