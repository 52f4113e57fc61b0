/- The two as the numbers say: begins, Done, Ask and Wait, what comes next. -/
import Derived.Test.YtihhcalgjkkalaaPbDo
import Derived.Test.YtihhcalgjkkalaaPbBeg
namespace Go.Proofs.Ytihhcalgjkkalaa
open Go.RowKit
set_option linter.unusedVariables false
theorem take_self (l : List Int) (k : Nat) : l.take k = l.take (l.take k).length := by
  rw [List.length_take]
  by_cases h : k ≤ l.length
  · rw [Nat.min_eq_left h]
  · rw [Nat.min_eq_right (by omega), List.take_length, List.take_of_length_le (by omega)]
theorem begins_st (x : Pb.Cc) (hx : x.ok) (s : Pb.Sy) (hs : s.ok x.cf) (w0 w : World) (g : Nat) (h : St w0 g x s w) :
    Calls Try.prog 16 #[.pointer (some ⟨g, 0, none⟩)] w fun e w' => e = .returned (.bool true) ∧ Below w.heap.size w w' := by
  obtain ⟨z, h, hct⟩ := h
  have hp : z.P0.con = Pb.pe0 x s.p := congrArg Pb.Ct.p hct
  have hq : z.P1.con = Pb.pe1 x s.q := congrArg Pb.Ct.q hct
  have d0 : z.P0.d.l = x.d0 := congrArg Pb.Pc.d hp
  have g0 : z.P0.g.l = x.d1.take s.p.got := congrArg Pb.Pc.g hp
  have d1 : z.P1.d.l = x.d1 := by
    have := congrArg Pb.Pc.d hq
    unfold Pb.pe1 at this
    split at this <;> exact this
  have g1 : ∃ k, z.P1.g.l = x.d0.take k := by
    have := congrArg Pb.Pc.g hq
    unfold Pb.pe1 at this
    split at this
    · exact ⟨0, Eq.trans (show z.P1.g.l = [] from this) List.take_zero.symm⟩
    · exact ⟨_, this⟩
  obtain ⟨k, g1⟩ := g1
  have n0 := h.o0.g.len
  have n1 := h.o1.g.len
  have m0 := h.o0.d.len
  have m1 := h.o1.d.len
  refine begins_spec w0 w g z h (by rw [hp]; exact Pb.right0 hx hs.inv) (by rw [hq]; exact Pb.right1 hx hs.inv) ?_ ?_ ?_ ?_
  · rw [← n0, ← m1, g0, d1, List.length_take]; omega
  · rw [← n1, ← m0, g1, d0, List.length_take]; omega
  · rw [← n0, g0, d1]; exact take_self _ _
  · rw [← n1, g1, d0]; exact take_self _ _
theorem ask_ok (x : Pb.Cc) (hx : x.ok) (A : Option Addr) (n c : Nat) (hn : n ≤ 300) (w : World) (hR : Rd w 1 A n (bs x.d0)) (hB : isB x.d0) :
    Calls Try.prog 8 #[.int .i64 5000, .int .i64 80, .int .u32 x.f0, .int .i64 x.w0, .slice A n c] w fun e w' => Below w.heap.size w w' ∧ ∃ p : Peer.P, e = .returned (.tuple #[.agg #[.int .i64 p.st, .int .i64 p.port, .int .i64 p.to, .int .u32 p.fi, .int .u32 p.un, .int .u32 p.ne, .int .u32 p.wa, .int .i64 p.wi, .int .i64 p.ot, .slice p.d.A p.d.n p.d.c, .slice p.g.A p.g.n p.g.c], .int .i64 0]) ∧ OwnP w' w.heap.size p ∧ p.con = Pb.pe0 x ⟨2, 0, 1, 0⟩ := by
  have hl : x.d0.length = n := by have := hR.1; simpa [bs] using this
  refine (pask_spec 5000 80 x.f0 x.w0 ⟨A, n, c, x.d0⟩ w hx.f0a hx.f0b ⟨hR, hB, by show n ≤ _; omega⟩ (by show n ≤ _; omega)).mono ?_
  rintro e w' ⟨hb, h⟩
  have hcon : (Peer.asking 5000 80 x.f0 x.w0 ⟨A, n, c, x.d0⟩).con = Pb.pe0 x ⟨2, 0, 1, 0⟩ := by
    have s0 : Seq.step x.f0 1 = Pb.off x.f0 1 := Pb.step_first hx.f0a hx.f0b 1
    unfold Peer.asking Peer.P.con Pb.pe0
    simp [s0, Pb.off_zero hx.f0a hx.f0b, Peer.nil]
  have hr : Peer.right (Peer.asking 5000 80 x.f0 x.w0 ⟨A, n, c, x.d0⟩) = true := by
    rw [Peer.right_con (show x.d0.length = n from hl) (show ([] : List Int).length = 0 from rfl), hcon]
    exact Pb.right0 (q := ⟨1, 0, 0, 0⟩) hx ⟨.inl ⟨rfl, rfl, rfl, rfl⟩, .inl ⟨rfl, rfl, rfl, rfl⟩, fun h => absurd h (by decide), fun h => absurd h (by decide), fun h => absurd rfl h, by decide, by decide⟩
  rcases h with ⟨h, _⟩ | ⟨_, A2, c2, rfl, ho⟩
  · rw [hr] at h
    cases h
  · exact ⟨hb, ⟨2, 5000, 80, x.f0, x.f0, Seq.step x.f0 1, 0, x.w0, 0, ⟨A2, n, c2, x.d0⟩, Peer.nil⟩, rfl, ⟨⟨ho, hB, by show n ≤ _; omega⟩, own_none _ _⟩, hcon⟩
theorem wait_ok (x : Pb.Cc) (hx : x.ok) (A : Option Addr) (n c : Nat) (hn : n ≤ 300) (w : World) (hR : Rd w 1 A n (bs x.d1)) (hB : isB x.d1) :
    Calls Try.prog 7 #[.int .i64 80, .int .u32 x.f1, .int .i64 x.w1, .slice A n c] w fun e w' => Below w.heap.size w w' ∧ ∃ p : Peer.P, e = .returned (.tuple #[.agg #[.int .i64 p.st, .int .i64 p.port, .int .i64 p.to, .int .u32 p.fi, .int .u32 p.un, .int .u32 p.ne, .int .u32 p.wa, .int .i64 p.wi, .int .i64 p.ot, .slice p.d.A p.d.n p.d.c, .slice p.g.A p.g.n p.g.c], .int .i64 0]) ∧ OwnP w' w.heap.size p ∧ p.con = Pb.pe1 x ⟨1, 0, 0, 0⟩ := by
  have hl : x.d1.length = n := by have := hR.1; simpa [bs] using this
  refine (pwait_spec 80 x.f1 x.w1 ⟨A, n, c, x.d1⟩ w hx.f1a hx.f1b ⟨hR, hB, by show n ≤ _; omega⟩ (by show n ≤ _; omega)).mono ?_
  rintro e w' ⟨hb, h⟩
  have hcon : (Peer.waiting 80 x.f1 x.w1 ⟨A, n, c, x.d1⟩).con = Pb.pe1 x ⟨1, 0, 0, 0⟩ := rfl
  have hr : Peer.right (Peer.waiting 80 x.f1 x.w1 ⟨A, n, c, x.d1⟩) = true := by
    rw [Peer.right_con (show x.d1.length = n from hl) (show ([] : List Int).length = 0 from rfl), hcon]
    exact Pb.right1 (p := ⟨2, 0, 1, 0⟩) hx ⟨.inl ⟨rfl, rfl, rfl, rfl⟩, .inl ⟨rfl, rfl, rfl, rfl⟩, fun h => absurd h (by decide), fun h => absurd h (by decide), fun h => absurd rfl h, by decide, by decide⟩
  rcases h with ⟨h, _⟩ | ⟨_, A2, c2, rfl, ho⟩
  · rw [hr] at h
    cases h
  · exact ⟨hb, ⟨1, 80, 0, x.f1, 0, 0, 0, x.w1, 0, ⟨A2, n, c2, x.d1⟩, Peer.nil⟩, rfl, ⟨⟨ho, hB, by show n ≤ _; omega⟩, own_none _ _⟩, hcon⟩
def Pb.s0 : Pb.Sy := ⟨⟨2, 0, 1, 0⟩, ⟨1, 0, 0, 0⟩, [], []⟩
theorem Pb.s0_ok (c : Pb.Cf) : Pb.s0.ok c := ⟨⟨.inl ⟨rfl, rfl, rfl, rfl⟩, .inl ⟨rfl, rfl, rfl, rfl⟩, fun h => absurd h (by decide), fun h => absurd h (by decide), fun h => absurd rfl h, by decide, by decide⟩, fun t ht => (by cases ht), fun t ht => (by cases ht)⟩
/-- what comes next, in the rounds -/
theorem do_kind (n : Nat) (hn : n ≤ 2) (x : Pb.Cc) (hx : x.ok) (s : Pb.Sy) (hs : s.ok x.cf) (hW : Pb.W s ≤ 5000) (w0 w : World) (g : Nat) (h : St w0 g x s w) (k : Bool) :
    Calls Try.prog 15 #[.pointer (some ⟨g, 0, none⟩), .agg #[.int .u8 n, .bool k, .int .u8 0], .int .i64 x.m] w fun e w' => e = .returned (.tuple #[]) ∧ St w0 g x (Pb.doS x.cf n k 0 s) w' :=
  do_spec x hx s hs hW w0 w g h n 0 (by omega) (by omega) k
theorem Pb.do1 (c : Pb.Cf) (k : Bool) (s : Pb.Sy) : Pb.doS c 1 k 0 s = Pb.againS k s := rfl
theorem Pb.do0 (c : Pb.Cf) (k : Bool) (s : Pb.Sy) : Pb.doS c 0 k 0 s = Pb.sayS c k s := rfl
theorem Pb.do2 (c : Pb.Cf) (s : Pb.Sy) (h : ¬ s.A.length + s.B.length = 0) : Pb.doS c 2 (decide (s.A.length = 0)) 0 s = Pb.comeS (decide (s.A.length = 0)) 0 s := by
  have hz : ¬ (Pb.wayS (decide (s.A.length = 0)) s).length = 0 := by
    unfold Pb.wayS
    by_cases ha : s.A.length = 0
    · rw [decide_eq_true ha, if_pos rfl]; omega
    · rw [decide_eq_false ha, if_neg (by simp)]; exact ha
  unfold Pb.doS
  rw [if_neg (by decide), if_neg (by decide), if_neg hz, if_neg (by decide), if_neg (by decide), Nat.zero_mod]
theorem do_k1 (x : Pb.Cc) (hx : x.ok) (s : Pb.Sy) (hs : s.ok x.cf) (hW : Pb.W s ≤ 5000) (w0 w : World) (g : Nat) (h : St w0 g x s w) (k : Bool) :
    Calls Try.prog 15 #[.pointer (some ⟨g, 0, none⟩), .agg #[.int .u8 1, .bool k, .int .u8 0], .int .i64 x.m] w fun e w' => e = .returned (.tuple #[]) ∧ St w0 g x (Pb.againS k s) w' := do_kind 1 (by omega) x hx s hs hW w0 w g h k
theorem do_k0 (x : Pb.Cc) (hx : x.ok) (s : Pb.Sy) (hs : s.ok x.cf) (hW : Pb.W s ≤ 5000) (w0 w : World) (g : Nat) (h : St w0 g x s w) (k : Bool) :
    Calls Try.prog 15 #[.pointer (some ⟨g, 0, none⟩), .agg #[.int .u8 0, .bool k, .int .u8 0], .int .i64 x.m] w fun e w' => e = .returned (.tuple #[]) ∧ St w0 g x (Pb.sayS x.cf k s) w' := do_kind 0 (by omega) x hx s hs hW w0 w g h k
theorem do_k2 (x : Pb.Cc) (hx : x.ok) (s : Pb.Sy) (hs : s.ok x.cf) (hW : Pb.W s ≤ 5000) (w0 w : World) (g : Nat) (h : St w0 g x s w) (hz : ¬ s.A.length + s.B.length = 0) :
    Calls Try.prog 15 #[.pointer (some ⟨g, 0, none⟩), .agg #[.int .u8 2, .bool (decide (s.A.length = 0)), .int .u8 0], .int .i64 x.m] w fun e w' => e = .returned (.tuple #[]) ∧ St w0 g x (Pb.comeS (decide (s.A.length = 0)) 0 s) w' := by
  have := do_kind 2 (by omega) x hx s hs hW w0 w g h (decide (s.A.length = 0))
  rw [Pb.do2 _ _ hz] at this
  exact this
theorem St.lens {w0 w : World} {g : Nat} {x : Pb.Cc} {s : Pb.Sy} {z : Two} (h : TwoM w0 g z w) (hct : z.ct = Pb.ctOf x s) : z.n0 = s.A.length ∧ z.n1 = s.B.length := by
  have hA : z.l0.map Tcp.T.con = s.A.map (Pb.sg0 x) := congrArg Pb.Ct.A hct
  have hB : z.l1.map Tcp.T.con = s.B.map (Pb.sg1 x) := congrArg Pb.Ct.B hct
  exact ⟨by rw [← segs_len h.r0]; simpa using congrArg List.length hA, by rw [← segs_len h.r1]; simpa using congrArg List.length hB⟩
theorem St.gots {w0 w : World} {g : Nat} {x : Pb.Cc} {s : Pb.Sy} {z : Two} (h : TwoM w0 g z w) (hct : z.ct = Pb.ctOf x s) (hs : s.ok x.cf) (hd : Pb.done x.cf s) : z.P0.g.n = x.cf.L1 ∧ z.P1.g.n = x.cf.L0 := by
  obtain ⟨a1, a2⟩ := Pb.done_all hs hd
  have hp : z.P0.con = Pb.pe0 x s.p := congrArg Pb.Ct.p hct
  have hq : z.P1.con = Pb.pe1 x s.q := congrArg Pb.Ct.q hct
  have g0 : z.P0.g.l = x.d1.take s.p.got := congrArg Pb.Pc.g hp
  have g1 : z.P1.g.l = x.d0.take s.q.got := by
    have := congrArg Pb.Pc.g hq
    unfold Pb.pe1 at this
    rw [if_neg (by have := hd.2.1; omega)] at this
    exact this
  have l0 : x.cf.L0 = x.d0.length := rfl
  have l1 : x.cf.L1 = x.d1.length := rfl
  constructor
  · rw [← h.o0.g.len, g0, List.length_take, a1]; omega
  · rw [← h.o1.g.len, g1, List.length_take, a2]; omega
/-- Done, of the side that asked and of the one that waited -/
theorem done_st0 (x : Pb.Cc) (hx : x.ok) (s : Pb.Sy) (hs : s.ok x.cf) (w0 w : World) (g : Nat) (z : Two) (h : TwoM w0 g z w) (hct : z.ct = Pb.ctOf x s) (w' : World) (hb : Below w.heap.size w w') :
    Calls Try.prog 17 #[.agg #[.int .i64 z.P0.st, .int .i64 z.P0.port, .int .i64 z.P0.to, .int .u32 z.P0.fi, .int .u32 z.P0.un, .int .u32 z.P0.ne, .int .u32 z.P0.wa, .int .i64 z.P0.wi, .int .i64 z.P0.ot, .slice z.P0.d.A z.P0.d.n z.P0.d.c, .slice z.P0.g.A z.P0.g.n z.P0.g.c]] w' fun e w'' => e = .returned (.bool (decide (s.p.st = 4 ∧ s.p.u = x.cf.L0 + 1))) ∧ Below w'.heap.size w' w'' := by
  have hp : z.P0.con = Pb.pe0 x s.p := congrArg Pb.Ct.p hct
  have := pdone_spec z.P0 w' w0.heap.size (h.below hb).o0 (by rw [hp]; exact Pb.right0 hx hs.inv)
  rw [hp, Pb.done0 hx hs.inv] at this
  exact this
theorem done_st1 (x : Pb.Cc) (hx : x.ok) (s : Pb.Sy) (hs : s.ok x.cf) (w0 w : World) (g : Nat) (z : Two) (h : TwoM w0 g z w) (hct : z.ct = Pb.ctOf x s) (w' : World) (hb : Below w.heap.size w w') :
    Calls Try.prog 17 #[.agg #[.int .i64 z.P1.st, .int .i64 z.P1.port, .int .i64 z.P1.to, .int .u32 z.P1.fi, .int .u32 z.P1.un, .int .u32 z.P1.ne, .int .u32 z.P1.wa, .int .i64 z.P1.wi, .int .i64 z.P1.ot, .slice z.P1.d.A z.P1.d.n z.P1.d.c, .slice z.P1.g.A z.P1.g.n z.P1.g.c]] w' fun e w'' => e = .returned (.bool (decide (s.q.st = 4 ∧ s.q.u = x.cf.L1 + 1))) ∧ Below w'.heap.size w' w'' := by
  have hq : z.P1.con = Pb.pe1 x s.q := congrArg Pb.Ct.q hct
  have := pdone_spec z.P1 w' w0.heap.size (h.below hb).o1 (by rw [hq]; exact Pb.right1 hx hs.inv)
  rw [hq, Pb.done1 hx hs.inv] at this
  exact this
/-- how the rounds go on -/
def Pb.Ph (c : Pb.Cf) (i : Nat) (s : Pb.Sy) : Prop := (i = 0 ∧ Pb.W s ≤ 450) ∨ (1 ≤ i ∧ Pb.W s = 0 ∧ Pb.rank c s ≠ 0 ∧ Pb.rank c s + i ≤ c.L0 + c.L1 + 4)
theorem Pb.Ph.w {c : Pb.Cf} {i : Nat} {s : Pb.Sy} (h : Pb.Ph c i s) : Pb.W s ≤ 450 := by rcases h with h | h <;> omega
theorem Pb.Ph.next {c : Pb.Cf} {i : Nat} {s : Pb.Sy} (hs : s.ok c) (h : Pb.Ph c i s) (hm : 1 ≤ c.m) (hw0 : 1 ≤ c.w0) (hw1 : 1 ≤ c.w1) (hd : ¬ Pb.done c (Pb.round c s)) : Pb.Ph c (i + 1) (Pb.round c s) := by
  have hr := mt (Pb.done_iff (Pb.round_ok hs)).2 hd
  rcases h with ⟨h1, h2⟩ | ⟨h1, h2, h3, h4⟩
  · have := Pb.rank_le c (Pb.round c s)
    exact .inr ⟨by omega, Pb.round_first hs h2, hr, by omega⟩
  · obtain ⟨k1, k2⟩ := Pb.round_on hs h2 hm hw0 hw1 h3
    exact .inr ⟨by omega, k1, hr, by omega⟩
theorem Pb.Ph.less {c : Pb.Cf} {i : Nat} {s : Pb.Sy} (h : Pb.Ph c i s) (h0 : c.L0 ≤ 300) (h1 : c.L1 ≤ 300) : i < 2000 := by rcases h with h | h <;> omega
end Go.Proofs.Ytihhcalgjkkalaa
