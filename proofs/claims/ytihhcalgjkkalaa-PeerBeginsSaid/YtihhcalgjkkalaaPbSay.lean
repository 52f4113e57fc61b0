/- The walk of peer.say of one who speaks; say whatever the state. -/
import Derived.Test.YtihhcalgjkkalaaPbCon
import Derived.Test.YtihhcalgjkkalaaBlkOwn
namespace Go.Proofs.Ytihhcalgjkkalaa
open Go.RowKit
set_option linter.unusedVariables false
set_option linter.unusedSimpArgs false
/-- what is said: the peer's next number, a segment, was anything said -/
def SayG (p : Peer.P) (mss : Int) (w : World) (e : Ending) (w' : World) : Prop :=
  Below w.heap.size w w' ∧ ∃ (ne : Int) (t : Tcp.T), e = .returned (.tuple #[.agg #[.int .i64 p.st, .int .i64 p.port, .int .i64 p.to, .int .u32 p.fi, .int .u32 p.un, .int .u32 ne, .int .u32 p.wa, .int .i64 p.wi, .int .i64 p.ot, .slice p.d.A p.d.n p.d.c, .slice p.g.A p.g.n p.g.c], .agg #[.int .i64 t.sp, .int .i64 t.dp, .int .u32 t.sq, .int .u32 t.ak, .int .i64 t.fl, .int .i64 t.wi, .int .i64 t.ur, .slice t.Ao t.no t.co, .slice t.Ab t.nb t.cb], .bool (Pb.sayC p.con mss).2.isSome]) ∧ OwnT w' w.heap.size t ∧ (Pb.sayC p.con mss).1 = { p.con with ne := ne } ∧ t.con = (Pb.sayC p.con mss).2.getD Pb.zero
theorem sayG_none {p : Peer.P} {mss : Int} {w w' : World} (hb : Below w.heap.size w w') (h : Pb.sayC p.con mss = (p.con, none)) : SayG p mss w (.returned (.tuple #[.agg #[.int .i64 p.st, .int .i64 p.port, .int .i64 p.to, .int .u32 p.fi, .int .u32 p.un, .int .u32 p.ne, .int .u32 p.wa, .int .i64 p.wi, .int .i64 p.ot, .slice p.d.A p.d.n p.d.c, .slice p.g.A p.g.n p.g.c], .agg #[.int .i64 0, .int .i64 0, .int .u32 0, .int .u32 0, .int .i64 0, .int .i64 0, .int .i64 0, .slice none 0 0, .slice none 0 0], .bool false])) w' := by
  refine ⟨hb, p.ne, ⟨0, 0, 0, 0, 0, 0, 0, none, 0, 0, none, 0, 0, [], []⟩, ?_, own_none _ _, by rw [h]; rfl, by rw [h]; rfl⟩
  rw [h]
  rfl
theorem sayG_tell {p : Peer.P} {mss : Int} {w : World} {e : Ending} {w' : World} {fl num ack : Int} (h : SayR p fl num ack w e w') (hs : Pb.sayC p.con mss = (p.con, some ⟨p.port, p.to, num, ack, fl, p.wi, []⟩)) : SayG p mss w e w' := by
  obtain ⟨hb, A, c, rfl, ho⟩ := h
  refine ⟨hb, p.ne, ⟨p.port, p.to, num, ack, fl, p.wi, 0, none, 0, 0, A, 0, c, [], []⟩, ?_, ⟨ho, (fun x hx => by cases hx), Nat.zero_le _⟩, by rw [hs]; rfl, by rw [hs]; rfl⟩
  rw [hs]
  rfl
theorem sayG_some {p : Peer.P} {mss : Int} {w w' : World} {A : Option Addr} {n k : Nat} {ne : Int} (hb : Below w.heap.size w w') (hst : p.st = 4) (hn0 : ¬ n = 0) (hn : n = (Pb.nextC p.con mss).length) (hne : ne = Seq.step p.ne n) (ho : OwnS w' w.heap.size A n k (Pb.nextC p.con mss)) :
    SayG p mss w (.returned (.tuple #[.agg #[.int .i64 p.st, .int .i64 p.port, .int .i64 p.to, .int .u32 p.fi, .int .u32 p.un, .int .u32 ne, .int .u32 p.wa, .int .i64 p.wi, .int .i64 p.ot, .slice p.d.A p.d.n p.d.c, .slice p.g.A p.g.n p.g.c], .agg #[.int .i64 p.port, .int .i64 p.to, .int .u32 p.ne, .int .u32 p.wa, .int .i64 24, .int .i64 p.wi, .int .i64 0, .slice none 0 0, .slice A n k], .bool true])) w' := by
  have hs : Pb.sayC p.con mss = ({ p.con with ne := ne }, some ⟨p.port, p.to, p.ne, p.wa, 24, p.wi, Pb.nextC p.con mss⟩) := by
    have e4 : p.con.st = 4 := hst
    unfold Pb.sayC
    rw [if_neg (by rw [e4]; decide), if_neg (by rw [e4]; decide), if_pos e4, if_neg (fun h => hn0 (by rw [hn, h]; rfl)), hne, hn]
    rfl
  refine ⟨hb, ne, ⟨p.port, p.to, p.ne, p.wa, 24, p.wi, 0, none, 0, 0, A, n, k, [], Pb.nextC p.con mss⟩, ?_, ho, by rw [hs], by rw [hs]; rfl⟩
  rw [hs]
  rfl
theorem isB_next {p : Peer.P} {mss : Int} (h : isB p.d.l) : isB (Pb.nextC p.con mss) := by
  unfold Pb.nextC
  split
  · intro x hx
    cases hx
  · intro x hx
    exact h x (List.mem_of_mem_drop (List.mem_of_mem_take hx))
set_option maxHeartbeats 4000000 in
theorem psay4_spec (p : Peer.P) (mss : Int) (w : World) (hst : p.st = 4) (hm : 1 ≤ mss ∧ mss ≤ 65536) (hr : Rd w 1 p.d.A p.d.n (bs p.d.l)) (hB : isB p.d.l) (hn : p.d.n ≤ 65536) (hc : p.d.n ≤ p.d.c) : Calls Try.prog 31 #[.agg #[.int .i64 p.st, .int .i64 p.port, .int .i64 p.to, .int .u32 p.fi, .int .u32 p.un, .int .u32 p.ne, .int .u32 p.wa, .int .i64 p.wi, .int .i64 p.ot, .slice p.d.A p.d.n p.d.c, .slice p.g.A p.g.n p.g.c], .int .i64 mss] w (SayG p mss w) := by
  have hq2 : (p.st == 2) = false := by rw [hst]; rfl
  have hq3 : (p.st == 3) = false := by rw [hst]; rfl
  have hq4 : (p.st == 4) = true := by rw [hst]; rfl
  have HST := Lib.hid hst
  clear hst
  obtain ⟨W, hW⟩ : ∃ W, W = ((w.alloc (.cells #[.int .i64 p.st, .int .i64 p.port, .int .i64 p.to, .int .u32 p.fi, .int .u32 p.un, .int .u32 p.ne, .int .u32 p.wa, .int .i64 p.wi, .int .i64 p.ot, .slice p.d.A p.d.n p.d.c, .slice p.g.A p.g.n p.g.c] 26)).alloc (.cells #[.int .i64 0, .int .i64 0, .int .i64 0, .int .u32 0, .int .u32 0, .int .u32 0, .int .u32 0, .int .i64 0, .int .i64 0, .slice none 0 0, .slice none 0 0] 26)).alloc (.cells #[.int .i64 0, .int .i64 0, .int .u32 0, .int .u32 0, .int .i64 0, .int .i64 0, .int .i64 0, .slice none 0 0, .slice none 0 0] 37) := ⟨_, rfl⟩
  have hbW : Below w.heap.size w W := (by rw [hW]; exact (((Below.refl _ _).alloc (Nat.le_refl _) _).alloc (by simp) _).alloc (by simp; omega) _)
  have hWs : W.heap.size = w.heap.size + 3 := (by rw [hW]; simp)
  have B0 : BlkV W w.heap.size 26 [.int .i64 p.st, .int .i64 p.port, .int .i64 p.to, .int .u32 p.fi, .int .u32 p.un, .int .u32 p.ne, .int .u32 p.wa, .int .i64 p.wi, .int .i64 p.ot, .slice p.d.A p.d.n p.d.c, .slice p.g.A p.g.n p.g.c] := (by rw [hW]; exact ((BlkV.new w _ _).alloc _).alloc _)
  have B1 : BlkV W (w.heap.size + 1) 26 [.int .i64 0, .int .i64 0, .int .i64 0, .int .u32 0, .int .u32 0, .int .u32 0, .int .u32 0, .int .i64 0, .int .i64 0, .slice none 0 0, .slice none 0 0] := (by rw [hW]; exact (BlkV.new_at (w.alloc (.cells #[.int .i64 p.st, .int .i64 p.port, .int .i64 p.to, .int .u32 p.fi, .int .u32 p.un, .int .u32 p.ne, .int .u32 p.wa, .int .i64 p.wi, .int .i64 p.ot, .slice p.d.A p.d.n p.d.c, .slice p.g.A p.g.n p.g.c] 26)) _ _ (by simp)).alloc _)
  have B2 : BlkV W (w.heap.size + 1 + 1) 37 [.int .i64 0, .int .i64 0, .int .u32 0, .int .u32 0, .int .i64 0, .int .i64 0, .int .i64 0, .slice none 0 0, .slice none 0 0] := (by rw [hW]; exact (BlkV.new_at ((w.alloc (.cells #[.int .i64 p.st, .int .i64 p.port, .int .i64 p.to, .int .u32 p.fi, .int .u32 p.un, .int .u32 p.ne, .int .u32 p.wa, .int .i64 p.wi, .int .i64 p.ot, .slice p.d.A p.d.n p.d.c, .slice p.g.A p.g.n p.g.c] 26)).alloc (.cells #[.int .i64 0, .int .i64 0, .int .i64 0, .int .u32 0, .int .u32 0, .int .u32 0, .int .u32 0, .int .i64 0, .int .i64 0, .slice none 0 0, .slice none 0 0] 26)) _ _ (by simp)))
  have HN := Lib.hid (pnext_spec p mss W hm (hr.below hbW) hn hc)
  have KF : Hid (∀ w' : World, BlkV w' w.heap.size 26 [.int .i64 p.st, .int .i64 p.port, .int .i64 p.to, .int .u32 p.fi, .int .u32 p.un, .int .u32 p.ne, .int .u32 p.wa, .int .i64 p.wi, .int .i64 p.ot, .slice p.d.A p.d.n p.d.c, .slice p.g.A p.g.n p.g.c] → (w'.cell? ⟨w.heap.size, 0, none⟩ = some (.int .i64 p.st) ∧ w'.cell? ⟨w.heap.size, 1, none⟩ = some (.int .i64 p.port) ∧ w'.cell? ⟨w.heap.size, 2, none⟩ = some (.int .i64 p.to) ∧ w'.cell? ⟨w.heap.size, 3, none⟩ = some (.int .u32 p.fi) ∧ w'.cell? ⟨w.heap.size, 4, none⟩ = some (.int .u32 p.un) ∧ w'.cell? ⟨w.heap.size, 5, none⟩ = some (.int .u32 p.ne) ∧ w'.cell? ⟨w.heap.size, 6, none⟩ = some (.int .u32 p.wa) ∧ w'.cell? ⟨w.heap.size, 7, none⟩ = some (.int .i64 p.wi) ∧ w'.cell? ⟨w.heap.size, 8, none⟩ = some (.int .i64 p.ot) ∧ w'.cell? ⟨w.heap.size, 9, none⟩ = some (.slice p.d.A p.d.n p.d.c) ∧ w'.cell? ⟨w.heap.size, 10, none⟩ = some (.slice p.g.A p.g.n p.g.c))) := Lib.hid fun w' h => cells11 h
  obtain ⟨c0, c1, c2, c3, c4, c5, c6, c7, c8, c9, c10⟩ := KF.out W B0
  have HL := Lib.hid (show (Pb.nextC p.con mss).length ≤ p.d.n by
    have hl : p.d.l.length = p.d.n := by have := hr.1; simpa [bs] using this
    unfold Pb.nextC
    split
    · exact Nat.zero_le _
    · rw [List.length_take, List.length_drop]
      show _ ≤ p.d.n
      have : p.con.d.length = p.d.n := hl
      omega)
  have HIB := Lib.hid (isB_next (mss := mss) hB)
  clear hr hm hB
  go_enter Try.func31, Try.ntmps31
  go_upto_region 1 with (fail)
  rw [← hW]
  clear hW
  go_wp2_with (refine wpList_ldB 26 _ _ (by with_reducible rfl) rfl (by rfl) (by assumption) Try.underlying26 rfl (peer_size (by rfl)) ?_)
  refine HN.out.mono ?_
  rintro e w1 ⟨hb1, A, n, c, rfl, hnl, hR⟩
  have B0' := B0.below hb1
  have B1' := B1.below hb1
  have B2' := B2.below hb1
  have HNL := Lib.hid hnl
  have hn2 : n ≤ 65536 := by rw [hnl]; exact Nat.le_trans HL.out hn
  have HR := Lib.hid hR
  have hs1 := hb1.size
  clear c0 c1 c2 c3 c4 c5 c6 c7 c8 c9 c10 B0 B1 B2 HN hnl hR
  obtain ⟨c0, c1, c2, c3, c4, c5, c6, c7, c8, c9, c10⟩ := KF.out w1 B0'
  by_cases hz : n = 0
  · subst hz
    go_wp2_with (first | (refine wpList_ldB 26 _ _ (by with_reducible rfl) rfl (by rfl) (by assumption) Try.underlying26 rfl (peer_size (by rfl)) ?_) | (refine wpList_stB 26 _ _ (by with_reducible rfl) rfl (by rfl) _ (by rfl) (by assumption) (by rfl) (peer_size (by rfl)) (by rfl) ?_; intro wN BN hO) | (refine wpList_stB 37 _ _ (by with_reducible rfl) rfl (by rfl) _ (by rfl) (B2'.only hO (by omega)) (by rfl) (tcp_size (by rfl)) (by rfl) ?_; intro wM BM hM))
    have BN' := BN.only hM (by omega)
    obtain ⟨r0, r1, r2, r3, r4, r5, r6, r7, r8, r9, r10⟩ := cells11 BN'
    obtain ⟨t0, t1, t2, t3, t4, t5, t6, t7, t8⟩ := cells9 BM
    clear c0 c1 c2 c3 c4 c5 c6 c7 c8 c9 c10 KF B0' B1' B2' BN BM BN'
    exact bodyPost_ret (v := .tuple #[.agg #[.int .i64 p.st, .int .i64 p.port, .int .i64 p.to, .int .u32 p.fi, .int .u32 p.un, .int .u32 p.ne, .int .u32 p.wa, .int .i64 p.wi, .int .i64 p.ot, .slice p.d.A p.d.n p.d.c, .slice p.g.A p.g.n p.g.c], .agg #[.int .i64 0, .int .i64 0, .int .u32 0, .int .u32 0, .int .i64 0, .int .i64 0, .int .i64 0, .slice none 0 0, .slice none 0 0], .bool false]) (by simp [results, Try.results31, go_sem, r0, r1, r2, r3, r4, r5, r6, r7, r8, r9, r10, t0, t1, t2, t3, t4, t5, t6, t7, t8]) rfl (sayG_none (hM.bel (by omega) (hO.bel (by omega) (bel_then hbW hb1))) (by
      have e4 : p.con.st = 4 := HST.out
      have hz : Pb.nextC p.con mss = [] := List.eq_nil_of_length_eq_zero HNL.out.symm
      unfold Pb.sayC
      rw [if_neg (by rw [e4]; decide), if_neg (by rw [e4]; decide), if_pos e4, if_pos hz]))
  · have HC := Lib.hid (psegment_spec p 24 p.ne p.wa ⟨A, n, c, Pb.nextC p.con mss⟩ w1 ⟨HR.out, HIB.out, by show n ≤ _; omega⟩ (by show n ≤ _; omega))
    have HS := Lib.hid (seq_step p.ne n)
    go_wp2_with (refine wpList_ldB 26 _ _ (by with_reducible rfl) rfl (by rfl) (by assumption) Try.underlying26 rfl (peer_size (by rfl)) ?_)
    refine HC.out.mono ?_
    rintro e w2 ⟨hb2, A2, k2, rfl, hown2⟩
    have HO := Lib.hid hown2
    have B0 := B0'.below hb2
    have B1 := B1'.below hb2
    have B2 := B2'.below hb2
    have hs2 := hb2.size
    clear c0 c1 c2 c3 c4 c5 c6 c7 c8 c9 c10 B0' B1' B2' HC hown2
    have B0a := B0.alloc (.cells #[.int .i64 0, .int .i64 0, .int .u32 0, .int .u32 0, .int .i64 0, .int .i64 0, .int .i64 0, .slice none 0 0, .slice none 0 0] 37)
    have B1a := B1.alloc (.cells #[.int .i64 0, .int .i64 0, .int .u32 0, .int .u32 0, .int .i64 0, .int .i64 0, .int .i64 0, .slice none 0 0, .slice none 0 0] 37)
    have B2a := B2.alloc (.cells #[.int .i64 0, .int .i64 0, .int .u32 0, .int .u32 0, .int .i64 0, .int .i64 0, .int .i64 0, .slice none 0 0, .slice none 0 0] 37)
    have B3a : BlkV (w2.alloc (.cells #[.int .i64 0, .int .i64 0, .int .u32 0, .int .u32 0, .int .i64 0, .int .i64 0, .int .i64 0, .slice none 0 0, .slice none 0 0] 37)) w2.heap.size 37 [.int .i64 0, .int .i64 0, .int .u32 0, .int .u32 0, .int .i64 0, .int .i64 0, .int .i64 0, .slice none 0 0, .slice none 0 0] := BlkV.new w2 _ _
    have hb2a := bel_a hb2 (.cells #[.int .i64 0, .int .i64 0, .int .u32 0, .int .u32 0, .int .i64 0, .int .i64 0, .int .i64 0, .slice none 0 0, .slice none 0 0] 37)
    have hsa : (w2.alloc (.cells #[.int .i64 0, .int .i64 0, .int .u32 0, .int .u32 0, .int .i64 0, .int .i64 0, .int .i64 0, .slice none 0 0, .slice none 0 0] 37)).heap.size = w2.heap.size + 1 := by simp
    have O2a := Lib.hid (own_below HO.out ((Below.refl w2.heap.size w2).alloc (Nat.le_refl _) (.cells #[.int .i64 0, .int .i64 0, .int .u32 0, .int .u32 0, .int .i64 0, .int .i64 0, .int .i64 0, .slice none 0 0, .slice none 0 0] 37)))
    clear B0 B1 B2
    go_upto_region 10 with (first | (refine wpList_stB 37 _ _ (by with_reducible rfl) rfl (by rfl) _ (by rfl) (by assumption) (by rfl) (tcp_size (by rfl)) (by rfl) ?_; intro wN BN hO))
    have B0 := B0a.only hO (by omega)
    have B1 := B1a.only hO (by omega)
    have B2 := B2a.only hO (by omega)
    have hsN := hO.size
    have HbN := Lib.hid (hO.bel (by omega) hb2a)
    have O2N := Lib.hid (own_st O2a.out B3a hO (by decide))
    clear B0a B1a B2a B3a hb2a O2a HO
    have c5 := cellF B0 5 rfl
    go_upto_region 11 with (first | ((with_reducible refine (HS.out _).mono ?_); rintro e w' ⟨rfl, rfl⟩) | (refine wpList_stF 22 _ _ 5 (.int .u32 (Seq.step p.ne n)) rfl (by with_reducible rfl) rfl (by rfl) (by rfl) (by assumption) (by simp) (by kernel_rfl) rfl ?_; intro wF BF0 hF))
    have BF := BlkV.fit BF0 (m := [.int .i64 p.st, .int .i64 p.port, .int .i64 p.to, .int .u32 p.fi, .int .u32 p.un, .int .u32 (Seq.step p.ne n), .int .u32 p.wa, .int .i64 p.wi, .int .i64 p.ot, .slice p.d.A p.d.n p.d.c, .slice p.g.A p.g.n p.g.c]) rfl
    have B1f := B1.only hF (by omega)
    have B2f := B2.only hF (by omega)
    have B3f := BN.only hF (by omega)
    have hsF := hF.size
    have HbF := Lib.hid (hF.bel (B := w.heap.size) (a := w) (by omega) (bel_then hbW (bel_then hb1 HbN.out)))
    have O2F := Lib.hid (own_st O2N.out B0 hF (by decide))
    clear B0 B1 B2 BN BF0 hF HbN O2N c5 KF hO hb1 hb2 HS
    have KG : Hid (∀ w' : World, BlkV w' w.heap.size 26 [.int .i64 p.st, .int .i64 p.port, .int .i64 p.to, .int .u32 p.fi, .int .u32 p.un, .int .u32 (Seq.step p.ne n), .int .u32 p.wa, .int .i64 p.wi, .int .i64 p.ot, .slice p.d.A p.d.n p.d.c, .slice p.g.A p.g.n p.g.c] → BlkV w' w2.heap.size 37 [.int .i64 p.port, .int .i64 p.to, .int .u32 p.ne, .int .u32 p.wa, .int .i64 24, .int .i64 p.wi, .int .i64 0, .slice none 0 0, .slice A2 n k2] → ((w'.cell? ⟨w.heap.size, 0, none⟩ = some (.int .i64 p.st) ∧ w'.cell? ⟨w.heap.size, 1, none⟩ = some (.int .i64 p.port) ∧ w'.cell? ⟨w.heap.size, 2, none⟩ = some (.int .i64 p.to) ∧ w'.cell? ⟨w.heap.size, 3, none⟩ = some (.int .u32 p.fi) ∧ w'.cell? ⟨w.heap.size, 4, none⟩ = some (.int .u32 p.un) ∧ w'.cell? ⟨w.heap.size, 5, none⟩ = some (.int .u32 (Seq.step p.ne n)) ∧ w'.cell? ⟨w.heap.size, 6, none⟩ = some (.int .u32 p.wa) ∧ w'.cell? ⟨w.heap.size, 7, none⟩ = some (.int .i64 p.wi) ∧ w'.cell? ⟨w.heap.size, 8, none⟩ = some (.int .i64 p.ot) ∧ w'.cell? ⟨w.heap.size, 9, none⟩ = some (.slice p.d.A p.d.n p.d.c) ∧ w'.cell? ⟨w.heap.size, 10, none⟩ = some (.slice p.g.A p.g.n p.g.c)) ∧ (w'.cell? ⟨w2.heap.size, 0, none⟩ = some (.int .i64 p.port) ∧ w'.cell? ⟨w2.heap.size, 1, none⟩ = some (.int .i64 p.to) ∧ w'.cell? ⟨w2.heap.size, 2, none⟩ = some (.int .u32 p.ne) ∧ w'.cell? ⟨w2.heap.size, 3, none⟩ = some (.int .u32 p.wa) ∧ w'.cell? ⟨w2.heap.size, 4, none⟩ = some (.int .i64 24) ∧ w'.cell? ⟨w2.heap.size, 5, none⟩ = some (.int .i64 p.wi) ∧ w'.cell? ⟨w2.heap.size, 6, none⟩ = some (.int .i64 0) ∧ w'.cell? ⟨w2.heap.size, 7, none⟩ = some (.slice none 0 0) ∧ w'.cell? ⟨w2.heap.size, 8, none⟩ = some (.slice A2 n k2)))) := Lib.hid fun w' h k => ⟨cells11 h, cells9 k⟩
    refine wp_region_held_drew (S := fun w' => ((w'.cell? ⟨w.heap.size, 0, none⟩ = some (.int .i64 p.st) ∧ w'.cell? ⟨w.heap.size, 1, none⟩ = some (.int .i64 p.port) ∧ w'.cell? ⟨w.heap.size, 2, none⟩ = some (.int .i64 p.to) ∧ w'.cell? ⟨w.heap.size, 3, none⟩ = some (.int .u32 p.fi) ∧ w'.cell? ⟨w.heap.size, 4, none⟩ = some (.int .u32 p.un) ∧ w'.cell? ⟨w.heap.size, 5, none⟩ = some (.int .u32 (Seq.step p.ne n)) ∧ w'.cell? ⟨w.heap.size, 6, none⟩ = some (.int .u32 p.wa) ∧ w'.cell? ⟨w.heap.size, 7, none⟩ = some (.int .i64 p.wi) ∧ w'.cell? ⟨w.heap.size, 8, none⟩ = some (.int .i64 p.ot) ∧ w'.cell? ⟨w.heap.size, 9, none⟩ = some (.slice p.d.A p.d.n p.d.c) ∧ w'.cell? ⟨w.heap.size, 10, none⟩ = some (.slice p.g.A p.g.n p.g.c)) ∧ (w'.cell? ⟨w2.heap.size, 0, none⟩ = some (.int .i64 p.port) ∧ w'.cell? ⟨w2.heap.size, 1, none⟩ = some (.int .i64 p.to) ∧ w'.cell? ⟨w2.heap.size, 2, none⟩ = some (.int .u32 p.ne) ∧ w'.cell? ⟨w2.heap.size, 3, none⟩ = some (.int .u32 p.wa) ∧ w'.cell? ⟨w2.heap.size, 4, none⟩ = some (.int .i64 24) ∧ w'.cell? ⟨w2.heap.size, 5, none⟩ = some (.int .i64 p.wi) ∧ w'.cell? ⟨w2.heap.size, 6, none⟩ = some (.int .i64 0) ∧ w'.cell? ⟨w2.heap.size, 7, none⟩ = some (.slice none 0 0) ∧ w'.cell? ⟨w2.heap.size, 8, none⟩ = some (.slice A2 n k2)))) (by kernel_rfl) (KG.out _ BF B3f) (fun hHeld => ?_)
    refine wpAnyH_takeD (i := 0) (some 48) (v := ?_) rfl rfl (by kernel_rfl) (by kernel_rfl) (by kernel_rfl) (fun _ _ _ h => h) (Or.inl ⟨by rfl, ?_⟩) (by assumption) ?_
    rotate_left
    · (intro w hSw; (try dsimp only at hSw); go_simp; try with_reducible rfl)
    try simp only [Act.put, List.setIfInBounds_toArray, List.set_cons_zero, List.set_cons_succ]
    refine wpAnyH_takeD (i := 1) (some 49) (v := ?_) rfl rfl (by kernel_rfl) (by kernel_rfl) (by kernel_rfl) (fun _ _ _ h => h) (Or.inl ⟨by rfl, ?_⟩) (by assumption) ?_
    rotate_left
    · (intro w hSw; (try dsimp only at hSw); go_simp; try with_reducible rfl)
    try simp only [Act.put, List.setIfInBounds_toArray, List.set_cons_zero, List.set_cons_succ]
    refine wpAnyH_ready (rs := [2]) (by kernel_rfl) (by simp) ?_
    refine AllReadyH.cons (o := _) rfl (fun K hK => ?_) AllReadyH.nil
    rw [if_pos (by rfl)]
    refine wp_stB 26 _ _ rfl (by rfl) (by rfl) _ (by rfl) (show BlkV wF.drew _ _ _ from B1f) (by rfl) (peer_size (by rfl)) (by rfl) ?_
    intro wG BG hG
    refine hK.out _ _ (KG.out _ ((show BlkV wF.drew _ _ _ from BF).only hG (by omega)) ((show BlkV wF.drew _ _ _ from B3f).only hG (by omega))) (fun hHeld => ?_)
    clear hK K
    try simp only [Act.put, List.setIfInBounds_toArray, List.set_cons_zero, List.set_cons_succ]
    refine wpAnyH_ready (rs := [3]) (by kernel_rfl) (by simp) ?_
    refine AllReadyH.cons (o := _) rfl (fun K hK => ?_) AllReadyH.nil
    rw [if_pos (by rfl)]
    refine wp_stB 37 _ _ rfl (by rfl) (by rfl) _ (by rfl) ((show BlkV wF.drew _ _ _ from B2f).only hG (by omega)) (by rfl) (tcp_size (by rfl)) (by rfl) ?_
    intro wM BM hM
    refine hK.out _ _ (KG.out _ (((show BlkV wF.drew _ _ _ from BF).only hG (by omega)).only hM (by omega)) (((show BlkV wF.drew _ _ _ from B3f).only hG (by omega)).only hM (by omega))) (fun hHeld => ?_)
    clear hK K
    try simp only [Act.put, List.setIfInBounds_toArray, List.set_cons_zero, List.set_cons_succ]
    refine wpAnyH_takeD (i := 4) (some 6) (v := ?_) rfl rfl (by kernel_rfl) (by kernel_rfl) (by kernel_rfl) (fun _ _ _ h => h) (Or.inl ⟨by rfl, ?_⟩) (by assumption) ?_
    rotate_left
    · (intro w hSw; (try dsimp only at hSw); go_simp; try with_reducible rfl)
    try simp only [Act.put, List.setIfInBounds_toArray, List.set_cons_zero, List.set_cons_succ]
    refine wpAnyH_done (by kernel_rfl) ?_ _
    have BN' := BG.only hM (by omega)
    obtain ⟨r0, r1, r2, r3, r4, r5, r6, r7, r8, r9, r10⟩ := cells11 BN'
    obtain ⟨t0, t1, t2, t3, t4, t5, t6, t7, t8⟩ := cells9 BM
    clear KG hHeld
    go_wp2_with fail
    exact bodyPost_ret (v := .tuple #[.agg #[.int .i64 p.st, .int .i64 p.port, .int .i64 p.to, .int .u32 p.fi, .int .u32 p.un, .int .u32 (Seq.step p.ne n), .int .u32 p.wa, .int .i64 p.wi, .int .i64 p.ot, .slice p.d.A p.d.n p.d.c, .slice p.g.A p.g.n p.g.c], .agg #[.int .i64 p.port, .int .i64 p.to, .int .u32 p.ne, .int .u32 p.wa, .int .i64 24, .int .i64 p.wi, .int .i64 0, .slice none 0 0, .slice A2 n k2], .bool true]) (by simp [results, Try.results31, go_sem, r0, r1, r2, r3, r4, r5, r6, r7, r8, r9, r10, t0, t1, t2, t3, t4, t5, t6, t7, t8]) rfl (sayG_some (hM.bel (by omega) (hG.bel (by omega) (bel_d HbF.out))) HST.out hz HNL.out rfl ⟨own_weak (base := w1.heap.size) (own_st (own_st (show World.ownsRow wF.drew _ _ _ _ _ _ from O2F.out) (show BlkV wF.drew _ _ _ from B1f) hG (by decide)) ((show BlkV wF.drew _ _ _ from B2f).only hG (by omega)) hM (by decide)) (by omega), HIB.out, hn2⟩)
end Go.Proofs.Ytihhcalgjkkalaa
