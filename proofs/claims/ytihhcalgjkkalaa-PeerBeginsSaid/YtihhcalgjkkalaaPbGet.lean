/- The walk of peer.get. -/
import Derived.Test.YtihhcalgjkkalaaPbSays
namespace Go.Proofs.Ytihhcalgjkkalaa
open Go.RowKit
set_option linter.unusedVariables false
set_option linter.unusedSimpArgs false
theorem info_byte : (Try.prog.info? 5).map (fun i => (i.zero, i.size, i.bytes)) = some (some (.int .u8 0), 1, 1) := by kernel_rfl
/-- what get leaves: the bytes got, what is wanted next -/
def GetR (w0 w : World) (p : Peer.P) (t : Tcp.T) (e : Ending) (w' : World) : Prop :=
  Below w0.heap.size w0 w' ∧ w.grownBy w' (Value.slice p.g.A p.g.n p.g.c).ownBlock ∧ ∃ wa B n k, e = .returned (.agg #[.int .i64 p.st, .int .i64 p.port, .int .i64 p.to, .int .u32 p.fi, .int .u32 p.un, .int .u32 p.ne, .int .u32 wa, .int .i64 p.wi, .int .i64 p.ot, .slice p.d.A p.d.n p.d.c, .slice B n k]) ∧ OwnS w' w0.heap.size p.d.A p.d.n p.d.c p.d.l ∧ OwnS w' w0.heap.size B n k (Pb.getC p.con t.con).g ∧ apart (.slice p.d.A p.d.n p.d.c) (.slice B n k) ∧ Pb.getC p.con t.con = { p.con with wa := wa, g := (Pb.getC p.con t.con).g }
theorem take_min_len {α : Type} (l : List α) (k : Nat) : l.take (min l.length k) = l.take k := by
  by_cases h : l.length ≤ k
  · rw [Nat.min_eq_left h, List.take_length, List.take_of_length_le h]
  · rw [Nat.min_eq_right (by omega)]
theorem isB_app {a b : List Int} (ha : isB a) (hb : isB b) : isB (a ++ b) := by
  intro x hx
  rcases List.mem_append.1 hx with h | h
  · exact ha x h
  · exact hb x h
theorem apart.ne {u v : Value} (h : apart u v) : u.ownBlock = none ∨ u.ownBlock ≠ v.ownBlock := by
  cases hu : u.ownBlock with
  | none => exact .inl rfl
  | some g => exact .inr fun e => h g hu e.symm
theorem grown_only {w w1 w2 : World} {g : Nat} {row : Option Nat} (h : w.grownBy w1 row) (ho : OnlyB g w1 w2) (hg : w.heap.size ≤ g) : w.grownBy w2 row :=
  ⟨ho.grown.os.trans h.os, ho.grown.tape.trans h.tape, ho.grown.output.trans h.output, Nat.le_trans h.size ho.grown.size, fun k hk hne => (ho.block k (by omega)).trans (h.block k hk hne)⟩
theorem bel_grown {w w1 w2 : World} {row : Option Nat} (h : Below w.heap.size w w1) (k : w1.grownBy w2 row) : w.grownBy w2 row :=
  ⟨k.os.trans h.os, k.tape.trans h.tape, k.output.trans h.output, Nat.le_trans h.size k.size, fun i hi hne => (k.block i (Nat.lt_of_lt_of_le hi h.size) hne).trans (h.block i hi)⟩
theorem grown_none {w w1 : World} {row : Option Nat} (h : Below w.heap.size w w1) : w.grownBy w1 row := ⟨h.os, h.tape, h.output, h.size, fun k hk _ => h.block k hk⟩
theorem get_ret {w0 w w' : World} {p : Peer.P} {t : Tcp.T} {A3 : Option Addr} {c3 s m : Nat} (hG : Hid (Pb.getC p.con t.con = { p.con with g := p.g.l ++ (t.body.drop s).take m, wa := Seq.step p.wa m })) (hb : Below w0.heap.size w0 w') (hgr : w.grownBy w' (Value.slice p.g.A p.g.n p.g.c).ownBlock) (oD : OwnS w' w0.heap.size p.d.A p.d.n p.d.c p.d.l)
    (oG : w'.ownsRow w0.heap.size 5 1 (.slice A3 (p.g.n + m) c3) (p.g.n + m) (bs p.g.l ++ bs ((t.body.drop s).take m))) (hi : isB (p.g.l ++ (t.body.drop s).take m)) (hle : p.g.n + m ≤ 65536) (hx : apart (.slice p.d.A p.d.n p.d.c) (.slice A3 (p.g.n + m) c3)) :
    GetR w0 w p t (.returned (.agg #[.int .i64 p.st, .int .i64 p.port, .int .i64 p.to, .int .u32 p.fi, .int .u32 p.un, .int .u32 p.ne, .int .u32 (Seq.step p.wa m), .int .i64 p.wi, .int .i64 p.ot, .slice p.d.A p.d.n p.d.c, .slice A3 (p.g.n + m) c3])) w' := by
  have e : (Pb.getC p.con t.con).g = p.g.l ++ (t.body.drop s).take m := by rw [hG.out]
  refine ⟨hb, hgr, Seq.step p.wa m, A3, p.g.n + m, c3, rfl, oD, ⟨?_, ?_, hle⟩, hx, ?_⟩
  · rw [e, show bs (p.g.l ++ (t.body.drop s).take m) = bs p.g.l ++ bs ((t.body.drop s).take m) from List.map_append]; exact oG
  · rw [e]; exact hi
  · rw [e]; exact hG.out
theorem BlkV.grown {w w' : World} {g : Nat} {T : TypeId} {l : List Value} {row : Option Nat} (h : BlkV w g T l) (hg : w.grownBy w' row) (hne : row ≠ some g) : BlkV w' g T l := (hg.block g h.lt (fun e => hne e.symm)).trans h
set_option maxHeartbeats 4000000 in
theorem pget_spec (p : Peer.P) (t : Tcp.T) (w0 w : World) (hb0 : Below w0.heap.size w0 w) (hp : OwnP w w0.heap.size p) (hx : apart (.slice p.d.A p.d.n p.d.c) (.slice p.g.A p.g.n p.g.c)) (hr : Rd w 1 t.Ab t.nb (bs t.body)) (hB : isB t.body) (hn : t.nb ≤ 65536) (hc : t.nb ≤ t.cb) :
    Calls Try.prog 37 #[.agg #[.int .i64 p.st, .int .i64 p.port, .int .i64 p.to, .int .u32 p.fi, .int .u32 p.un, .int .u32 p.ne, .int .u32 p.wa, .int .i64 p.wi, .int .i64 p.ot, .slice p.d.A p.d.n p.d.c, .slice p.g.A p.g.n p.g.c], .agg #[.int .i64 t.sp, .int .i64 t.dp, .int .u32 t.sq, .int .u32 t.ak, .int .i64 t.fl, .int .i64 t.wi, .int .i64 t.ur, .slice t.Ao t.no t.co, .slice t.Ab t.nb t.cb]] w (GetR w0 w p t) := by
  have hl : t.body.length = t.nb := by have := hr.1; simpa [bs] using this
  have hgl := hp.g.len
  obtain ⟨W, hW⟩ : ∃ W, W = ((w.alloc (.cells #[.int .i64 p.st, .int .i64 p.port, .int .i64 p.to, .int .u32 p.fi, .int .u32 p.un, .int .u32 p.ne, .int .u32 p.wa, .int .i64 p.wi, .int .i64 p.ot, .slice p.d.A p.d.n p.d.c, .slice p.g.A p.g.n p.g.c] 26)).alloc (.cells #[.int .i64 t.sp, .int .i64 t.dp, .int .u32 t.sq, .int .u32 t.ak, .int .i64 t.fl, .int .i64 t.wi, .int .i64 t.ur, .slice t.Ao t.no t.co, .slice t.Ab t.nb t.cb] 37)).alloc (.cells #[.int .i64 0, .int .i64 0, .int .i64 0, .int .u32 0, .int .u32 0, .int .u32 0, .int .u32 0, .int .i64 0, .int .i64 0, .slice none 0 0, .slice none 0 0] 26) := ⟨_, rfl⟩
  have hbW : Below w.heap.size w W := by rw [hW]; exact (((Below.refl _ _).alloc (Nat.le_refl _) _).alloc (by simp) _).alloc (by simp; omega) _
  have hWs : W.heap.size = w.heap.size + 3 := by rw [hW]; simp
  have B0 : BlkV W w.heap.size 26 [.int .i64 p.st, .int .i64 p.port, .int .i64 p.to, .int .u32 p.fi, .int .u32 p.un, .int .u32 p.ne, .int .u32 p.wa, .int .i64 p.wi, .int .i64 p.ot, .slice p.d.A p.d.n p.d.c, .slice p.g.A p.g.n p.g.c] := by rw [hW]; exact ((BlkV.new w _ _).alloc _).alloc _
  have B1 : BlkV W (w.heap.size + 1) 37 [.int .i64 t.sp, .int .i64 t.dp, .int .u32 t.sq, .int .u32 t.ak, .int .i64 t.fl, .int .i64 t.wi, .int .i64 t.ur, .slice t.Ao t.no t.co, .slice t.Ab t.nb t.cb] := by rw [hW]; exact (BlkV.new_at (w.alloc (.cells #[.int .i64 p.st, .int .i64 p.port, .int .i64 p.to, .int .u32 p.fi, .int .u32 p.un, .int .u32 p.ne, .int .u32 p.wa, .int .i64 p.wi, .int .i64 p.ot, .slice p.d.A p.d.n p.d.c, .slice p.g.A p.g.n p.g.c] 26)) _ _ (by simp)).alloc _
  have B2 : BlkV W (w.heap.size + 1 + 1) 26 [.int .i64 0, .int .i64 0, .int .i64 0, .int .u32 0, .int .u32 0, .int .u32 0, .int .u32 0, .int .i64 0, .int .i64 0, .slice none 0 0, .slice none 0 0] := by rw [hW]; exact BlkV.new_at ((w.alloc (.cells #[.int .i64 p.st, .int .i64 p.port, .int .i64 p.to, .int .u32 p.fi, .int .u32 p.un, .int .u32 p.ne, .int .u32 p.wa, .int .i64 p.wi, .int .i64 p.ot, .slice p.d.A p.d.n p.d.c, .slice p.g.A p.g.n p.g.c] 26)).alloc (.cells #[.int .i64 t.sp, .int .i64 t.dp, .int .u32 t.sq, .int .u32 t.ak, .int .i64 t.fl, .int .i64 t.wi, .int .i64 t.ur, .slice t.Ao t.no t.co, .slice t.Ab t.nb t.cb] 37)) _ _ (by simp)
  obtain ⟨c0, c1, c2, c3, c4, c5, c6, c7, c8, c9, c10⟩ := cells11 B0
  obtain ⟨m0, m1, m2, m3, m4, m5, m6, m7, m8⟩ := cells9 B1
  have D1 := Lib.hid (seq_dist t.sq p.wa)
  have hda := Seq.dist_bd t.sq p.wa
  have hsw := hb0.size
  have HG : Hid (Pb.getC p.con t.con = if Seq.dist t.sq p.wa < 0 ∨ (t.nb : Int) ≤ Seq.dist t.sq p.wa then p.con else { p.con with g := p.g.l ++ (t.body.drop (Seq.dist t.sq p.wa).toNat).take (65536 - p.g.n), wa := Seq.step p.wa ((t.body.drop (Seq.dist t.sq p.wa).toNat).take (65536 - p.g.n)).length }) := Lib.hid (by
    unfold Pb.getC Peer.P.con Tcp.T.con
    simp only [hl, hgl])
  generalize Seq.dist t.sq p.wa = x at D1 HG hda
  have HLT : Hid (∀ g, (Value.slice p.g.A p.g.n p.g.c).ownBlock = some g → g < w.heap.size) := Lib.hid fun g hg => (hp.g.own.lt g hg).2
  have HLD : Hid (∀ g, (Value.slice p.d.A p.d.n p.d.c).ownBlock = some g → g < w.heap.size) := Lib.hid fun g hg => (hp.d.own.lt g hg).2
  have HP := Lib.hid (hp.below hbW)
  have HX := Lib.hid hx
  have HB0 := Lib.hid hb0
  clear hp hx hb0
  by_cases hz : x < 0 ∨ (t.nb : Int) ≤ x
  · have HZ := Lib.hid hz
    have HG' : Hid (Pb.getC p.con t.con = p.con) := Lib.hid (by rw [HG.out, if_pos hz])
    clear HG hz hr
    rcases (show x < 0 ∨ (¬ x < 0 ∧ (t.nb : Int) ≤ x) by have := HZ.out; omega) with hx0 | ⟨hx0, hx1⟩
    all_goals
      go_enter Try.func37, Try.ntmps37
      go_upto_region 1 with (fail)
      rw [← hW]
      clear hW
      go_wp2_with (first | ((with_reducible refine (D1.out _).mono ?_); rintro e w' ⟨rfl, rfl⟩) | (refine wpList_ldB 26 _ _ (by with_reducible rfl) rfl (by rfl) (by assumption) Try.underlying26 rfl (peer_size (by rfl)) ?_) | (refine wpList_stB 26 _ _ (by with_reducible rfl) rfl (by rfl) _ (by rfl) (by assumption) (by rfl) (peer_size (by rfl)) (by rfl) ?_; intro wN BN hO))
      obtain ⟨r0, r1, r2, r3, r4, r5, r6, r7, r8, r9, r10⟩ := cells11 BN
      exact bodyPost_ret (v := .agg #[.int .i64 p.st, .int .i64 p.port, .int .i64 p.to, .int .u32 p.fi, .int .u32 p.un, .int .u32 p.ne, .int .u32 p.wa, .int .i64 p.wi, .int .i64 p.ot, .slice p.d.A p.d.n p.d.c, .slice p.g.A p.g.n p.g.c]) (by simp [results, Try.results37, go_sem, r0, r1, r2, r3, r4, r5, r6, r7, r8, r9, r10]) rfl ⟨hO.bel (by omega) (HB0.out.trans (hbW.mono hsw)), grown_none (hO.bel (by omega) hbW), p.wa, p.g.A, p.g.n, p.g.c, rfl, ⟨own_st HP.out.d.own B2 hO (by decide), HP.out.d.isb, HP.out.d.le⟩, ⟨by rw [HG'.out]; exact own_st HP.out.g.own B2 hO (by decide), by rw [HG'.out]; exact HP.out.g.isb, HP.out.g.le⟩, HX.out, by rw [HG'.out]; rfl⟩
  · obtain ⟨s, rfl⟩ : ∃ s : Nat, x = (s : Int) := ⟨x.toNat, by omega⟩
    have hsn : s < t.nb := by omega
    obtain ⟨b, off, hA, hb, hcc⟩ := hr.2 (by omega)
    have hcs : ¬ t.cb = s := by omega
    have hgn := HP.out.g.le
    have w1 : IntKind.i64.wrap (65536 - (p.g.n : Int)) = ((65536 - p.g.n : Nat) : Int) := by rw [IntKind.wrap_i64]; omega
    obtain ⟨m, hM⟩ : ∃ m, m = min (t.nb - s) (65536 - p.g.n) := ⟨_, rfl⟩
    have HM := Lib.hid hM
    have hx0 : ¬ (s : Int) < 0 := by omega
    have hx1 : ¬ (t.nb : Int) ≤ (s : Int) := by omega
    have HT : Hid ((t.body.drop s).take (65536 - p.g.n) = (t.body.drop s).take m) := Lib.hid (by
      rw [HM.out, ← hl, ← List.length_drop, take_min_len])
    have HG' : Hid (Pb.getC p.con t.con = { p.con with g := p.g.l ++ (t.body.drop s).take m, wa := Seq.step p.wa m }) := Lib.hid (by
      have e1 : ((t.body.drop s).take m).length = m := by rw [List.length_take, List.length_drop]; omega
      rw [HG.out, if_neg hz, Int.toNat_natCast, HT.out, e1])
    have HR := Lib.hid (rd_part ((hA ▸ hr).below hbW) s m (by omega))
    have HS := Lib.hid (seq_step p.wa m)
    have HIB := Lib.hid (show isB ((t.body.drop s).take m) from fun y hy => hB y (List.mem_of_mem_drop (List.mem_of_mem_take hy)))
    clear hz HG hr hcc hB HT HM
    have hmw : ((65536 - p.g.n < t.nb - s) ∧ m = 65536 - p.g.n) ∨ (¬ (65536 - p.g.n < t.nb - s) ∧ m = t.nb - s) := by omega
    clear hM
    rw [hA] at m8
    rcases hmw with ⟨hmw, rfl⟩ | ⟨hmw, rfl⟩
    all_goals
      go_enter Try.func37, Try.ntmps37
      rw [hA]
      go_upto_region 1 with (fail)
      rw [← hA, ← hW, hA]
      clear hW
      go_upto_region 6 with (first | ((with_reducible refine (D1.out _).mono ?_); rintro e w' ⟨rfl, rfl⟩) | (refine wpList_ldB 26 _ _ (by with_reducible rfl) rfl (by rfl) (by assumption) Try.underlying26 rfl (peer_size (by rfl)) ?_) | (refine wpList_stB 26 _ _ (by with_reducible rfl) rfl (by rfl) _ (by rfl) (by assumption) (by rfl) (peer_size (by rfl)) (by rfl) ?_; intro wN BN hO))
      go_upto_region 7 with (first
        | (at_builtin; refine wpList_app _ rfl (.tmp 36) (.tmp 37) 23 rfl w0 (HB0.out.trans (hbW.mono hsw)) 5 (.int .u8 0) 1 1 Try.underlying23 info_byte rfl (by decide) (.slice p.g.A p.g.n p.g.c) p.g.n (bs p.g.l) rfl HP.out.g.own (some ⟨b, off + s, none⟩) _ _ (bs ((t.body.drop s).take _)) rfl HR.out (one_bs _) (by unfold maxLen; omega) (by omega) ?_; intro A3 k3 w3 hown3 hb3 hg3 hat3; have B0a := B0.grown hg3 (fun h => absurd (HLT.out _ h) (by omega)); have B2a := B2.grown hg3 (fun h => absurd (HLT.out _ h) (by omega)); have hs3 := hg3.size)
        | (refine wpList_stF 23 _ _ 10 (.slice A3 _ k3) rfl (by with_reducible rfl) rfl (by rfl) (by rfl) B0a (by simp) (by kernel_rfl) rfl ?_; intro wF BF0 hF))
      have BF := BlkV.fit BF0 (m := [.int .i64 p.st, .int .i64 p.port, .int .i64 p.to, .int .u32 p.fi, .int .u32 p.un, .int .u32 p.ne, .int .u32 p.wa, .int .i64 p.wi, .int .i64 p.ot, .slice p.d.A p.d.n p.d.c, .slice A3 _ k3]) rfl
      have B2b := B2a.only hF (by omega)
      have OD := Lib.hid (own_st (HP.out.d.own.kept hg3 HX.out.ne) B0a hF (by decide))
      have OG := Lib.hid (own_st hown3 B0a hF (by decide))
      have HAP := Lib.hid (show apart (.slice p.d.A p.d.n p.d.c) (.slice A3 _ k3) from fun g h1 h2 => by
        rcases hat3 with h | h
        · exact HX.out g h1 (h.symm.trans h2)
        · rw [h] at h2
          injection h2 with h2
          have := HLD.out g h1
          omega)
      have hgF := Lib.hid (grown_only (bel_grown hbW hg3) hF (Nat.le_refl _))
      have hbF := Lib.hid (hF.bel (B := w0.heap.size) (a := w0) (by omega) hb3)
      have hsF := hF.size
      have c6 := cellF BF 6 rfl
      clear B0 B1 B2 B0a B2a BF0 hF hb3 hg3 hat3 hown3 c0 c1 c2 c3 c4 c5 c7 c8 c9 c10 m0 m1 m2 m3 m4 m5 m6 m7 m8
      go_wp2_with (first | ((with_reducible refine (HS.out _).mono ?_); rintro e w' ⟨rfl, rfl⟩) | (refine wpList_stF 22 _ _ 6 (.int .u32 _) rfl (by with_reducible rfl) rfl (by rfl) (by rfl) BF (by simp) (by kernel_rfl) rfl ?_; intro wH BH0 hH; have BH := BlkV.fit BH0 (m := [.int .i64 p.st, .int .i64 p.port, .int .i64 p.to, .int .u32 p.fi, .int .u32 p.un, .int .u32 p.ne, .int .u32 (Seq.step p.wa _), .int .i64 p.wi, .int .i64 p.ot, .slice p.d.A p.d.n p.d.c, .slice A3 _ k3]) rfl) | (refine wpList_ldB 26 _ _ (by with_reducible rfl) rfl (by rfl) BH Try.underlying26 rfl (peer_size (by rfl)) ?_) | (refine wpList_stB 26 _ _ (by with_reducible rfl) rfl (by rfl) _ (by rfl) (B2b.only hH (by omega)) (by rfl) (peer_size (by rfl)) (by rfl) ?_; intro wN BN hO))
      have B2c := B2b.only hH (by omega)
      obtain ⟨r0, r1, r2, r3, r4, r5, r6, r7, r8, r9, r10⟩ := cells11 BN
      exact bodyPost_ret (v := .agg #[.int .i64 p.st, .int .i64 p.port, .int .i64 p.to, .int .u32 p.fi, .int .u32 p.un, .int .u32 p.ne, .int .u32 (Seq.step p.wa _), .int .i64 p.wi, .int .i64 p.ot, .slice p.d.A p.d.n p.d.c, .slice A3 _ k3]) (by simp [results, Try.results37, go_sem, r0, r1, r2, r3, r4, r5, r6, r7, r8, r9, r10]; try omega) rfl (get_ret HG' (hO.bel (by omega) (hH.bel (by omega) hbF.out)) (grown_only (grown_only hgF.out hH (by omega)) hO (by omega)) ⟨own_st (own_st OD.out BF hH (by decide)) B2c hO (by decide), HP.out.d.isb, HP.out.d.le⟩ (own_st (own_st OG.out BF hH (by decide)) B2c hO (by decide)) (isB_app HP.out.g.isb HIB.out) (by omega) HAP.out)
end Go.Proofs.Ytihhcalgjkkalaa
