/- What a peer and a segment in memory hold; answers of peer's functions over it; the walk of peer.next. -/
import Derived.Test.YtihhcalgjkkalaaPeerTell
import Derived.Test.YtihhcalgjkkalaaTcpOpen
import Derived.Test.YtihhcalgjkkalaaPbHear
import Derived.BigQuiet
namespace Go.Proofs.Ytihhcalgjkkalaa
open Go.RowKit
set_option linter.unusedVariables false
set_option linter.unusedSimpArgs false
def Peer.P.con (p : Peer.P) : Pb.Pc := ⟨p.st, p.port, p.to, p.fi, p.un, p.ne, p.wa, p.wi, p.ot, p.d.l, p.g.l⟩
def Tcp.T.con (t : Tcp.T) : Pb.Tc := ⟨t.sp, t.dp, t.sq, t.ak, t.fl, t.wi, t.body⟩
def Pb.zero : Pb.Tc := ⟨0, 0, 0, 0, 0, 0, []⟩
/-- bytes of the call's own -/
structure OwnS (w : World) (base : Nat) (A : Option Addr) (n c : Nat) (l : List Int) : Prop where
  own : w.ownsRow base 5 1 (.slice A n c) n (bs l)
  isb : isB l
  le : n ≤ 65536
theorem own_len {w : World} {base : Nat} {e : TypeId} {s n c : Nat} {A : Option Addr} {xs : List Value} (h : w.ownsRow base e s (.slice A n c) n xs) : xs.length = n * s := h.1
theorem own_cap {w : World} {base : Nat} {e : TypeId} {s n c : Nat} {A : Option Addr} {xs : List Value} (h : w.ownsRow base e s (.slice A n c) n xs) : n ≤ c := by
  rcases h.2 with ⟨h1, h2⟩ | ⟨g, cap, cur, h1, h2, h3, h4, h5⟩
  · injection h1 with _ e1 e2; omega
  · injection h1 with _ e1 e2; omega
theorem OwnS.len {w : World} {base : Nat} {A : Option Addr} {n c : Nat} {l : List Int} (h : OwnS w base A n c l) : l.length = n := by
  have := own_len h.own
  simp [bs] at this
  omega
theorem OwnS.rd {w : World} {base : Nat} {A : Option Addr} {n c : Nat} {l : List Int} (h : OwnS w base A n c l) : Rd w 1 A n (bs l) := Rd.of_own h.own
theorem OwnS.below {w w' : World} {base : Nat} {A : Option Addr} {n c : Nat} {l : List Int} (h : OwnS w base A n c l) (hb : Below w.heap.size w w') : OwnS w' base A n c l := ⟨own_below h.own hb, h.isb, h.le⟩
theorem OwnS.weak {w : World} {base base' : Nat} {A : Option Addr} {n c : Nat} {l : List Int} (h : OwnS w base A n c l) (hb : base' ≤ base) : OwnS w base' A n c l := ⟨own_weak h.own hb, h.isb, h.le⟩
structure OwnP (w : World) (base : Nat) (p : Peer.P) : Prop where
  d : OwnS w base p.d.A p.d.n p.d.c p.d.l
  g : OwnS w base p.g.A p.g.n p.g.c p.g.l
def OwnT (w : World) (base : Nat) (t : Tcp.T) : Prop := OwnS w base t.Ab t.nb t.cb t.body
theorem OwnP.below {w w' : World} {base : Nat} {p : Peer.P} (h : OwnP w base p) (hb : Below w.heap.size w w') : OwnP w' base p := ⟨h.d.below hb, h.g.below hb⟩
theorem OwnP.weak {w : World} {base base' : Nat} {p : Peer.P} (h : OwnP w base p) (hb : base' ≤ base) : OwnP w base' p := ⟨h.d.weak hb, h.g.weak hb⟩
/-- an answer: a peer, a segment, was anything said -/
def PtR (base : Nat) (o : Pb.Pc × Option Pb.Tc) (w : World) (e : Ending) (w' : World) : Prop :=
  Below base w w' ∧ ∃ (p : Peer.P) (t : Tcp.T), e = .returned (.tuple #[.agg #[.int .i64 p.st, .int .i64 p.port, .int .i64 p.to, .int .u32 p.fi, .int .u32 p.un, .int .u32 p.ne, .int .u32 p.wa, .int .i64 p.wi, .int .i64 p.ot, .slice p.d.A p.d.n p.d.c, .slice p.g.A p.g.n p.g.c], .agg #[.int .i64 t.sp, .int .i64 t.dp, .int .u32 t.sq, .int .u32 t.ak, .int .i64 t.fl, .int .i64 t.wi, .int .i64 t.ur, .slice t.Ao t.no t.co, .slice t.Ab t.nb t.cb], .bool o.2.isSome]) ∧ OwnP w' base p ∧ OwnT w' base t ∧ p.con = o.1 ∧ t.con = o.2.getD Pb.zero
theorem own_none (w : World) (base : Nat) : OwnS w base none 0 0 [] := ⟨⟨rfl, .inl ⟨rfl, rfl⟩⟩, (fun x hx => by cases hx), Nat.zero_le _⟩
theorem Peer.right_con {p : Peer.P} (hd : p.d.l.length = p.d.n) (hg : p.g.l.length = p.g.n) : Peer.right p = Pb.rightC p.con := by
  unfold Peer.right Peer.inOrder Pb.rightC Peer.P.con
  simp only [hd, hg]
/-- what may be said next: a slice of what is to be said -/
def NextR (p : Peer.P) (mss : Int) (w : World) (e : Ending) (w' : World) : Prop :=
  Below w.heap.size w w' ∧ ∃ A n c, e = .returned (.slice A n c) ∧ n = (Pb.nextC p.con mss).length ∧ Rd w' 1 A n (bs (Pb.nextC p.con mss))
theorem rd_part {w : World} {b off n : Nat} {l : List Int} (h : Rd w 1 (some ⟨b, off, none⟩) n (bs l)) (k m : Nat) (hk : k + m ≤ n) : Rd w 1 (some ⟨b, off + k, none⟩) m (bs ((l.drop k).take m)) := by
  have hl := h.blen
  refine ⟨by rw [bs_len]; simp; omega, fun hm => ?_⟩
  obtain ⟨b', off', e, hb, hc⟩ := h.2 (by omega)
  simp only [Option.some.injEq, Addr.mk.injEq, and_true] at e
  obtain ⟨rfl, rfl⟩ := e
  refine ⟨b, off + k, rfl, hb, fun j u hu => ?_⟩
  rw [Nat.add_assoc]
  refine hc (k + j) u ?_
  simp only [bs, List.getElem?_map, List.getElem?_take, List.getElem?_drop] at hu ⊢
  split at hu
  · exact hu
  · simp at hu
theorem next_nil {p : Peer.P} {mss : Int} {w w' : World} (hb : Below w.heap.size w w') (h : Hid (Pb.nextC p.con mss = [])) : NextR p mss w (.returned (.slice none 0 0)) w' :=
  ⟨hb, none, 0, 0, rfl, by rw [h.out]; rfl, by rw [h.out]; exact Rd.nil_ _⟩
theorem next_some {p : Peer.P} {mss : Int} {w w' : World} {b off f k c : Nat} (hb : Below w.heap.size w w') (h : Hid (Pb.nextC p.con mss = (p.d.l.drop f).take k)) (hr : Rd w' 1 (some ⟨b, off, none⟩) p.d.n (bs p.d.l)) (hk : f + k ≤ p.d.n) : NextR p mss w (.returned (.slice (some ⟨b, off + f, none⟩) k c)) w' := by
  have hl : p.d.l.length = p.d.n := by have := hr.1; simpa [bs] using this
  refine ⟨hb, _, k, c, rfl, ?_, ?_⟩
  · rw [h.out, List.length_take, List.length_drop]; omega
  · rw [h.out]; exact rd_part hr f k hk
set_option maxHeartbeats 1000000 in
theorem pnext_spec (p : Peer.P) (mss : Int) (w : World) (hm : 1 ≤ mss ∧ mss ≤ 65536) (hr : Rd w 1 p.d.A p.d.n (bs p.d.l)) (hn : p.d.n ≤ 65536) (hc : p.d.n ≤ p.d.c) :
    Calls Try.prog 39 #[.agg #[.int .i64 p.st, .int .i64 p.port, .int .i64 p.to, .int .u32 p.fi, .int .u32 p.un, .int .u32 p.ne, .int .u32 p.wa, .int .i64 p.wi, .int .i64 p.ot, .slice p.d.A p.d.n p.d.c, .slice p.g.A p.g.n p.g.c], .int .i64 mss] w (NextR p mss w) := by
  have hl : p.d.l.length = p.d.n := by have := hr.1; simpa [bs] using this
  obtain ⟨W, hW⟩ : ∃ W, W = w.alloc (.cells #[.int .i64 p.st, .int .i64 p.port, .int .i64 p.to, .int .u32 p.fi, .int .u32 p.un, .int .u32 p.ne, .int .u32 p.wa, .int .i64 p.wi, .int .i64 p.ot, .slice p.d.A p.d.n p.d.c, .slice p.g.A p.g.n p.g.c] 26) := ⟨_, rfl⟩
  have hbW : Below w.heap.size w W := by rw [hW]; exact (Below.refl _ _).alloc (Nat.le_refl _) _
  have B0 : BlkV W w.heap.size 26 [.int .i64 p.st, .int .i64 p.port, .int .i64 p.to, .int .u32 p.fi, .int .u32 p.un, .int .u32 p.ne, .int .u32 p.wa, .int .i64 p.wi, .int .i64 p.ot, .slice p.d.A p.d.n p.d.c, .slice p.g.A p.g.n p.g.c] := by rw [hW]; exact BlkV.new w _ _
  obtain ⟨c0, c1, c2, c3, c4, c5, c6, c7, c8, c9, c10⟩ := cells11 B0
  have D1 := Lib.hid (seq_dist p.fi p.ne)
  have D2 : Hid (∀ q, Calls Try.prog 9 #[.int .u32 p.un, .int .i64 p.ot] (W.drewN q) fun e w' => e = .returned (.int .u32 (Seq.step p.un p.ot)) ∧ ∃ m, w' = W.drewN m) := Lib.hid fun q => (seq_step p.un p.ot _).mono fun e w' ⟨h1, h2⟩ => ⟨h1, q, h2.symm⟩
  have D3 : Hid (∀ q, Calls Try.prog 30 #[.int .u32 p.ne, .int .u32 (Seq.step p.un p.ot)] (W.drewN q) fun e w' => e = .returned (.int .i64 (Seq.dist p.ne (Seq.step p.un p.ot))) ∧ ∃ m, w' = W.drewN m) := Lib.hid fun q => (seq_dist p.ne (Seq.step p.un p.ot) _).mono fun e w' ⟨h1, h2⟩ => ⟨h1, q, h2.symm⟩
  have hda := Seq.dist_bd p.fi p.ne
  have hdb := Seq.dist_bd p.ne (Seq.step p.un p.ot)
  have HN : Hid (Pb.nextC p.con mss = (if Seq.dist p.fi p.ne - 1 < 0 ∨ min (min ((p.d.n : Int) - (Seq.dist p.fi p.ne - 1)) mss) (Seq.dist p.ne (Seq.step p.un p.ot)) ≤ 0 then [] else (p.d.l.drop (Seq.dist p.fi p.ne - 1).toNat).take (min (min ((p.d.n : Int) - (Seq.dist p.fi p.ne - 1)) mss) (Seq.dist p.ne (Seq.step p.un p.ot))).toNat)) := Lib.hid (by
    unfold Pb.nextC Peer.P.con
    simp only [hl])
  generalize Seq.dist p.fi p.ne = x at D1 HN hda
  generalize Seq.dist p.ne (Seq.step p.un p.ot) = y at D3 HN hdb
  have w1 : IntKind.i64.wrap (x - 1) = x - 1 := IntWalk.i64_in _ (by omega)
  have w2 : IntKind.i64.wrap ((p.d.n : Int) - (x - 1)) = (p.d.n : Int) - (x - 1) := IntWalk.i64_in _ (by omega)
  by_cases hz : x - 1 < 0 ∨ min (min ((p.d.n : Int) - (x - 1)) mss) y ≤ 0
  · have HZ := Lib.hid hz
    have HN' : Hid (Pb.nextC p.con mss = []) := Lib.hid (by rw [HN.out, if_pos hz])
    clear hz HN hr
    go_enter Try.func39, Try.ntmps39
    go_upto_region 1 with (fail)
    rw [← hW]
    clear hW
    go_wp2_with ((with_reducible refine (D1.out _).mono ?_); rintro e w' ⟨rfl, rfl⟩)
    go_quiet (with_reducible first | exact D2.out _ | exact D3.out _)
    go_wp2_with fail
    all_goals first | (go_ret; exact next_nil (bel_n hbW _) HN') | (exfalso; have := HZ.out; omega)
  · obtain ⟨f, hf⟩ : ∃ f : Nat, x = (f : Int) + 1 := ⟨(x - 1).toNat, by omega⟩
    subst hf
    obtain ⟨v, rfl⟩ : ∃ v : Nat, y = (v : Int) := ⟨y.toNat, by omega⟩
    obtain ⟨m, rfl⟩ : ∃ m : Nat, mss = (m : Int) := ⟨mss.toNat, by omega⟩
    have HZ := Lib.hid hz
    have hfn : f < p.d.n := by omega
    obtain ⟨b, off, hA, hb, hcc⟩ := hr.2 (by omega)
    have w1' : IntKind.i64.wrap ((f : Int) + 1 - 1) = (f : Int) := by rw [w1]; omega
    have w2' : IntKind.i64.wrap ((p.d.n : Int) - (f : Int)) = ((p.d.n - f : Nat) : Int) := by rw [IntKind.wrap_i64]; omega
    have w3 : IntKind.i64.wrap ((f : Int) + (m : Int)) = ((f + m : Nat) : Int) := by rw [IntKind.wrap_i64]; omega
    have w4 : IntKind.i64.wrap ((f : Int) + (v : Int)) = ((f + v : Nat) : Int) := by rw [IntKind.wrap_i64]; omega
    have w5 : IntKind.i64.wrap ((f : Int) + ((p.d.n - f : Nat) : Int)) = ((p.d.n : Nat) : Int) := by rw [IntKind.wrap_i64]; omega
    have HN' : Hid (Pb.nextC p.con m = (p.d.l.drop f).take (min (min (p.d.n - f) m) v)) := Lib.hid (by
      rw [HN.out, if_neg hz]
      congr 1
      · omega
      · congr 1; omega)
    clear hz HN w1 w2 hcc
    rw [hA] at hr c9
    have hrW := Lib.hid (hr.below hbW)
    go_enter Try.func39, Try.ntmps39
    rw [hA]
    go_upto_region 1 with (fail)
    rw [← hA, ← hW, hA]
    clear hW
    go_wp2_with ((with_reducible refine (D1.out _).mono ?_); rintro e w' ⟨rfl, rfl⟩)
    go_quiet (with_reducible first | exact D2.out _ | exact D3.out _)
    go_wp2_with fail
    all_goals first
      | (exfalso; have := HZ.out; omega)
      | (go_ret; exact next_some (f := f) (bel_n hbW _) (Lib.hid (by rw [HN'.out]; congr 1; omega)) (hrW.out.drewN _) (by omega))
end Go.Proofs.Ytihhcalgjkkalaa
