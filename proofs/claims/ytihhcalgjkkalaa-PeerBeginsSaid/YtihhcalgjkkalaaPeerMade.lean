/- The walks of peer.made, Wait, Ask. -/
import Derived.Test.YtihhcalgjkkalaaPeerWalks
namespace Go.Proofs.Ytihhcalgjkkalaa
open Go.RowKit
set_option linter.unusedVariables false
theorem cellF {w : World} {g : Nat} {T : TypeId} {l : List Value} (h : BlkV w g T l) (i : Nat) {v : Value} (hv : l[i]? = some v) : w.cell? ⟨g, i, none⟩ = some v := h.cell hv
def MadeR (p : Peer.P) (w : World) (e : Ending) (w' : World) : Prop :=
  Below w.heap.size w w' ∧ ((Peer.right p = false ∧ e = .returned (.tuple #[.agg #[.int .i64 0, .int .i64 0, .int .i64 0, .int .u32 0, .int .u32 0, .int .u32 0, .int .u32 0, .int .i64 0, .int .i64 0, .slice none 0 0, .slice none 0 0], .int .i64 1])) ∨ (Peer.right p = true ∧ ∃ A c, e = .returned (.tuple #[.agg #[.int .i64 p.st, .int .i64 p.port, .int .i64 p.to, .int .u32 p.fi, .int .u32 p.un, .int .u32 p.ne, .int .u32 p.wa, .int .i64 p.wi, .int .i64 p.ot, .slice A p.d.n c, .slice p.g.A p.g.n p.g.c], .int .i64 0]) ∧ w'.ownsRow w.heap.size 5 1 (.slice A p.d.n c) p.d.n (bs p.d.l)))
set_option maxHeartbeats 1000000 in
theorem pmade_spec (p : Peer.P) (w : World) (hp : p.ok w) (hd : p.d.n ≤ 140737488355328) :
    Calls Try.prog 19 #[.agg #[.int .i64 p.st, .int .i64 p.port, .int .i64 p.to, .int .u32 p.fi, .int .u32 p.un, .int .u32 p.ne, .int .u32 p.wa, .int .i64 p.wi, .int .i64 p.ot, .slice p.d.A p.d.n p.d.c, .slice p.g.A p.g.n p.g.c]] w (MadeR p w) := by
  obtain ⟨W, hW⟩ : ∃ W, W = (w.alloc (.cells #[.int .i64 p.st, .int .i64 p.port, .int .i64 p.to, .int .u32 p.fi, .int .u32 p.un, .int .u32 p.ne, .int .u32 p.wa, .int .i64 p.wi, .int .i64 p.ot, .slice p.d.A p.d.n p.d.c, .slice p.g.A p.g.n p.g.c] 26)).alloc (.cells #[.int .i64 0, .int .i64 0, .int .i64 0, .int .u32 0, .int .u32 0, .int .u32 0, .int .u32 0, .int .i64 0, .int .i64 0, .slice none 0 0, .slice none 0 0] 26) := ⟨_, rfl⟩
  have hbW : Below w.heap.size w W := by rw [hW]; exact ((Below.refl _ _).alloc (Nat.le_refl _) _).alloc (by simp) _
  have B0 : BlkV W w.heap.size 26 [.int .i64 p.st, .int .i64 p.port, .int .i64 p.to, .int .u32 p.fi, .int .u32 p.un, .int .u32 p.ne, .int .u32 p.wa, .int .i64 p.wi, .int .i64 p.ot, .slice p.d.A p.d.n p.d.c, .slice p.g.A p.g.n p.g.c] := by rw [hW]; exact (BlkV.new w _ _).alloc _
  have B1 : BlkV W (w.heap.size + 1) 26 [.int .i64 0, .int .i64 0, .int .i64 0, .int .u32 0, .int .u32 0, .int .u32 0, .int .u32 0, .int .i64 0, .int .i64 0, .slice none 0 0, .slice none 0 0] := by rw [hW]; exact BlkV.new_at (w.alloc (.cells #[.int .i64 p.st, .int .i64 p.port, .int .i64 p.to, .int .u32 p.fi, .int .u32 p.un, .int .u32 p.ne, .int .u32 p.wa, .int .i64 p.wi, .int .i64 p.ot, .slice p.d.A p.d.n p.d.c, .slice p.g.A p.g.n p.g.c] 26)) _ _ (by simp)
  have HR := Lib.hid (pright_spec p W (by omega))
  have hWs : W.heap.size = w.heap.size + 2 := by rw [hW]; simp
  have HD := Lib.hid (hp.d.rd.below hbW)
  obtain ⟨rt, hrt⟩ : ∃ b, Peer.right p = b := ⟨_, rfl⟩
  rw [hrt] at HR
  have HRT := Lib.hid hrt
  clear hrt
  cases rt
  · go_enter Try.func19, Try.ntmps19
    go_upto_region 1 with (fail)
    rw [← hW]
    clear hW
    go_wp2_with (refine wpList_ldB 26 _ _ (by with_reducible rfl) rfl (by rfl) (by assumption) Try.underlying26 rfl (peer_size (by rfl)) ?_)
    refine HR.out.mono ?_
    rintro e w1 ⟨rfl, hb1⟩
    have B0' := B0.below hb1
    have B1' := B1.below hb1
    clear B0 B1
    go_wp2_with (first | (refine wpList_ldB 26 _ _ (by with_reducible rfl) rfl (by rfl) (by assumption) Try.underlying26 rfl (peer_size (by rfl)) ?_) | (refine wpList_stB 26 _ _ (by with_reducible rfl) rfl (by rfl) _ (by rfl) (by assumption) (by rfl) (peer_size (by rfl)) (by rfl) ?_; intro wN BN hO))
    obtain ⟨r0, r1, r2, r3, r4, r5, r6, r7, r8, r9, r10⟩ := cells11 BN
    exact bodyPost_ret (v := .tuple #[.agg #[.int .i64 0, .int .i64 0, .int .i64 0, .int .u32 0, .int .u32 0, .int .u32 0, .int .u32 0, .int .i64 0, .int .i64 0, .slice none 0 0, .slice none 0 0], .int .i64 1]) (by simp [results, Try.results19, go_sem, *]) rfl ⟨hO.bel (by omega) (bel_then hbW hb1), .inl ⟨HRT.out, rfl⟩⟩
  · go_enter Try.func19, Try.ntmps19
    go_upto_region 1 with (fail)
    rw [← hW]
    clear hW
    go_wp2_with (refine wpList_ldB 26 _ _ (by with_reducible rfl) rfl (by rfl) (by assumption) Try.underlying26 rfl (peer_size (by rfl)) ?_)
    refine HR.out.mono ?_
    rintro e w1 ⟨rfl, hb1⟩
    have B0' := B0.below hb1
    have B1' := B1.below hb1
    have HC := Lib.hid (bytes_clone p.d.A p.d.n p.d.c p.d.l w1 (HD.out.below hb1) hd)
    have c9 := cellF B0' 9 rfl
    clear B0 B1
    go_wp2_with (first | (refine wpList_ldB 26 _ _ (by with_reducible rfl) rfl (by rfl) (by assumption) Try.underlying26 rfl (peer_size (by rfl)) ?_) | (refine wpList_stB 26 _ _ (by with_reducible rfl) rfl (by rfl) _ (by rfl) (by assumption) (by rfl) (peer_size (by rfl)) (by rfl) ?_; intro wN BN hO))
    refine HC.out.mono ?_
    rintro e w2 ⟨A2, k2, rfl, hown2, hb2⟩
    have B0 := B0'.below hb2
    have B1 := B1'.below hb2
    have hbF := bel_then hbW (bel_then hb1 hb2)
    clear B0' B1' c9
    go_wp2_with (first | (refine wpList_ldB 26 _ _ (by with_reducible rfl) rfl (by rfl) (by assumption) Try.underlying26 rfl (peer_size (by rfl)) ?_) | (refine wpList_stB 26 _ _ (by with_reducible rfl) rfl (by rfl) _ (by rfl) (by assumption) (by rfl) (peer_size (by rfl)) (by rfl) ?_; intro wN BN hO) | (refine wpList_stF 23 _ _ 9 (.slice A2 p.d.n k2) rfl (by with_reducible rfl) rfl (by rfl) (by rfl) (by assumption) (by simp) (by kernel_rfl) rfl ?_; intro wF BF0 hOF; have BF := BlkV.fit BF0 (m := [.int .i64 p.st, .int .i64 p.port, .int .i64 p.to, .int .u32 p.fi, .int .u32 p.un, .int .u32 p.ne, .int .u32 p.wa, .int .i64 p.wi, .int .i64 p.ot, .slice A2 p.d.n k2, .slice p.g.A p.g.n p.g.c]) rfl; have B1' := B1.only hOF (by omega); clear B0 B1 BF0))
    obtain ⟨r0, r1, r2, r3, r4, r5, r6, r7, r8, r9, r10⟩ := cells11 BN
    have hown3 : wN.ownsRow w.heap.size 5 1 (.slice A2 p.d.n k2) p.d.n (bs p.d.l) := own_weak (own_only (own_only hown2 hOF (by have := hb1.size; omega)) hO (by have := hb1.size; omega)) (by have := hb1.size; omega)
    exact bodyPost_ret (v := .tuple #[.agg #[.int .i64 p.st, .int .i64 p.port, .int .i64 p.to, .int .u32 p.fi, .int .u32 p.un, .int .u32 p.ne, .int .u32 p.wa, .int .i64 p.wi, .int .i64 p.ot, .slice A2 p.d.n k2, .slice p.g.A p.g.n p.g.c], .int .i64 0]) (by simp [results, Try.results19, go_sem, *]) rfl ⟨hO.bel (by omega) (hOF.bel (by omega) hbF), .inr ⟨HRT.out, A2, k2, rfl, hown3⟩⟩

def Peer.waiting (port first win : Int) (d : Peer.Sl) : Peer.P := ⟨1, port, 0, first, 0, 0, 0, win, 0, d, Peer.nil⟩
def Peer.asking (port to_ first win : Int) (d : Peer.Sl) : Peer.P := ⟨2, port, to_, first, first, Seq.step first 1, 0, win, 0, d, Peer.nil⟩
theorem zero_u32 : (0 : Int) ≤ 0 ∧ (0 : Int) ≤ 4294967295 := by omega
theorem Peer.waiting_ok {port first win : Int} {d : Peer.Sl} {w : World} (h0 : 0 ≤ first) (h1 : first ≤ 4294967295) (hd : d.ok w) : (Peer.waiting port first win d).ok w :=
  ⟨⟨h0, h1⟩, zero_u32, zero_u32, zero_u32, hd, Peer.nil_ok w⟩
theorem Peer.asking_ok {port to_ first win : Int} {d : Peer.Sl} {w : World} (h0 : 0 ≤ first) (h1 : first ≤ 4294967295) (hd : d.ok w) : (Peer.asking port to_ first win d).ok w :=
  ⟨⟨h0, h1⟩, ⟨h0, h1⟩, by have := Seq.step_bd first 1; exact ⟨this.1, by show Seq.step first 1 ≤ _; omega⟩, zero_u32, hd, Peer.nil_ok w⟩
set_option maxHeartbeats 1000000 in
theorem pwait_spec (port first win : Int) (d : Peer.Sl) (w : World) (h0 : 0 ≤ first) (h1 : first ≤ 4294967295) (hd : d.ok w) (hn : d.n ≤ 140737488355328) :
    Calls Try.prog 7 #[.int .i64 port, .int .u32 first, .int .i64 win, .slice d.A d.n d.c] w (MadeR (Peer.waiting port first win d) w) := by
  obtain ⟨W, hW⟩ : ∃ W, W = w.alloc (.cells #[.int .i64 0, .int .i64 0, .int .i64 0, .int .u32 0, .int .u32 0, .int .u32 0, .int .u32 0, .int .i64 0, .int .i64 0, .slice none 0 0, .slice none 0 0] 26) := ⟨_, rfl⟩
  have hbW : Below w.heap.size w W := by rw [hW]; exact (Below.refl _ _).alloc (Nat.le_refl _) _
  have hWs : W.heap.size = w.heap.size + 1 := by rw [hW]; simp
  have B0 : BlkV W w.heap.size 26 [.int .i64 0, .int .i64 0, .int .i64 0, .int .u32 0, .int .u32 0, .int .u32 0, .int .u32 0, .int .i64 0, .int .i64 0, .slice none 0 0, .slice none 0 0] := by rw [hW]; exact BlkV.new w _ _
  have HM := Lib.hid (pmade_spec (Peer.waiting port first win d) W (Peer.waiting_ok h0 h1 (hd.below hbW)) hn)
  obtain ⟨A, n, c, l⟩ := d
  simp only at *
  go_enter Try.func7, Try.ntmps7
  go_upto_region 1 with (fail)
  rw [← hW]
  clear hW
  go_wp2_with fail
  refine HM.out.mono ?_
  rintro e w1 ⟨hb1, hr⟩
  have B0' := B0.below hb1
  clear B0
  rcases hr with ⟨hr, rfl⟩ | ⟨hr, A2, k2, rfl, hown⟩
  · have HR := Lib.hid hr
    clear hr HM
    go_wp2_with (first | (refine wpList_stB 26 _ _ (by with_reducible rfl) rfl (by rfl) _ (by rfl) (by assumption) (by rfl) (peer_size (by rfl)) (by rfl) ?_; intro wN BN hO))
    obtain ⟨r0, r1, r2, r3, r4, r5, r6, r7, r8, r9, r10⟩ := cells11 BN
    exact bodyPost_ret (v := .tuple #[.agg #[.int .i64 0, .int .i64 0, .int .i64 0, .int .u32 0, .int .u32 0, .int .u32 0, .int .u32 0, .int .i64 0, .int .i64 0, .slice none 0 0, .slice none 0 0], .int .i64 1]) (by simp [results, Try.results7, go_sem, *]) rfl ⟨hO.bel (by omega) (bel_then hbW hb1), .inl ⟨HR.out, rfl⟩⟩
  · have HR := Lib.hid hr
    have HO := Lib.hid hown
    clear hr HM hown
    simp only [Peer.waiting, Peer.nil]
    go_wp2_with (first | (refine wpList_stB 26 _ _ (by with_reducible rfl) rfl (by rfl) _ (by rfl) (by assumption) (by rfl) (peer_size (by rfl)) (by rfl) ?_; intro wN BN hO))
    obtain ⟨r0, r1, r2, r3, r4, r5, r6, r7, r8, r9, r10⟩ := cells11 BN
    exact bodyPost_ret (v := .tuple #[.agg #[.int .i64 1, .int .i64 port, .int .i64 0, .int .u32 first, .int .u32 0, .int .u32 0, .int .u32 0, .int .i64 win, .int .i64 0, .slice A2 n k2, .slice none 0 0], .int .i64 0]) (by simp [results, Try.results7, go_sem, *]) rfl ⟨hO.bel (by omega) (bel_then hbW hb1), .inr ⟨HR.out, A2, k2, rfl, own_weak (own_only HO.out hO (by omega)) (by omega)⟩⟩
set_option maxHeartbeats 1000000 in
theorem pask_spec (port to_ first win : Int) (d : Peer.Sl) (w : World) (h0 : 0 ≤ first) (h1 : first ≤ 4294967295) (hd : d.ok w) (hn : d.n ≤ 140737488355328) :
    Calls Try.prog 8 #[.int .i64 port, .int .i64 to_, .int .u32 first, .int .i64 win, .slice d.A d.n d.c] w (MadeR (Peer.asking port to_ first win d) w) := by
  obtain ⟨W, hW⟩ : ∃ W, W = w.alloc (.cells #[.int .i64 0, .int .i64 0, .int .i64 0, .int .u32 0, .int .u32 0, .int .u32 0, .int .u32 0, .int .i64 0, .int .i64 0, .slice none 0 0, .slice none 0 0] 26) := ⟨_, rfl⟩
  have hbW : Below w.heap.size w W := by rw [hW]; exact (Below.refl _ _).alloc (Nat.le_refl _) _
  have hWs : W.heap.size = w.heap.size + 1 := by rw [hW]; simp
  have B0 : BlkV W w.heap.size 26 [.int .i64 0, .int .i64 0, .int .i64 0, .int .u32 0, .int .u32 0, .int .u32 0, .int .u32 0, .int .i64 0, .int .i64 0, .slice none 0 0, .slice none 0 0] := by rw [hW]; exact BlkV.new w _ _
  have HM := Lib.hid (pmade_spec (Peer.asking port to_ first win d) W (Peer.asking_ok h0 h1 (hd.below hbW)) hn)
  have HS := Lib.hid (seq_step first 1)
  obtain ⟨A, n, c, l⟩ := d
  simp only at *
  go_enter Try.func8, Try.ntmps8
  go_upto_region 1 with (fail)
  rw [← hW]
  clear hW
  go_wp2_with (refine (HS.out _).mono ?_; rintro e w' ⟨rfl, rfl⟩)
  refine HM.out.mono ?_
  rintro e w1 ⟨hb1, hr⟩
  have B0' := B0.below hb1
  clear B0
  rcases hr with ⟨hr, rfl⟩ | ⟨hr, A2, k2, rfl, hown⟩
  · have HR := Lib.hid hr
    clear hr HM
    go_wp2_with (first | (refine wpList_stB 26 _ _ (by with_reducible rfl) rfl (by rfl) _ (by rfl) (by assumption) (by rfl) (peer_size (by rfl)) (by rfl) ?_; intro wN BN hO))
    obtain ⟨r0, r1, r2, r3, r4, r5, r6, r7, r8, r9, r10⟩ := cells11 BN
    exact bodyPost_ret (v := .tuple #[.agg #[.int .i64 0, .int .i64 0, .int .i64 0, .int .u32 0, .int .u32 0, .int .u32 0, .int .u32 0, .int .i64 0, .int .i64 0, .slice none 0 0, .slice none 0 0], .int .i64 1]) (by simp [results, Try.results8, go_sem, *]) rfl ⟨hO.bel (by omega) (bel_then hbW hb1), .inl ⟨HR.out, rfl⟩⟩
  · have HR := Lib.hid hr
    have HO := Lib.hid hown
    clear hr HM hown
    simp only [Peer.asking, Peer.nil]
    go_wp2_with (first | (refine wpList_stB 26 _ _ (by with_reducible rfl) rfl (by rfl) _ (by rfl) (by assumption) (by rfl) (peer_size (by rfl)) (by rfl) ?_; intro wN BN hO))
    obtain ⟨r0, r1, r2, r3, r4, r5, r6, r7, r8, r9, r10⟩ := cells11 BN
    exact bodyPost_ret (v := .tuple #[.agg #[.int .i64 2, .int .i64 port, .int .i64 to_, .int .u32 first, .int .u32 first, .int .u32 (Seq.step first 1), .int .u32 0, .int .i64 win, .int .i64 0, .slice A2 n k2, .slice none 0 0], .int .i64 0]) (by simp [results, Try.results8, go_sem, *]) rfl ⟨hO.bel (by omega) (bel_then hbW hb1), .inr ⟨HR.out, A2, k2, rfl, own_weak (own_only HO.out hO (by omega)) (by omega)⟩⟩
end Go.Proofs.Ytihhcalgjkkalaa
