/- The memory of two who speak to one another: both peers, and what is on its way from each. -/
import Derived.Test.YtihhcalgjkkalaaPbHearW
import Derived.Test.YtihhcalgjkkalaaPbDoneW
namespace Go.Proofs.Ytihhcalgjkkalaa
open Go.RowKit
set_option linter.unusedVariables false
set_option linter.unusedSimpArgs false
structure Two where
  P0 : Peer.P
  P1 : Peer.P
  A0 : Option Addr
  n0 : Nat
  c0 : Nat
  l0 : List Tcp.T
  A1 : Option Addr
  n1 : Nat
  c1 : Nat
  l1 : List Tcp.T
/-- what both hold, and what is on its way -/
structure Pb.Ct where
  p : Pb.Pc
  q : Pb.Pc
  A : List Pb.Tc
  B : List Pb.Tc
def Two.ct (z : Two) : Pb.Ct := ⟨z.P0.con, z.P1.con, z.l0.map Tcp.T.con, z.l1.map Tcp.T.con⟩
def Pb.sayK (k : Bool) (m : Int) (c : Pb.Ct) : Pb.Ct := if k then ⟨c.p, (Pb.sayC c.q m).1, c.A, c.B ++ (Pb.sayC c.q m).2.toList⟩ else ⟨(Pb.sayC c.p m).1, c.q, c.A ++ (Pb.sayC c.p m).2.toList, c.B⟩
def Pb.againK (k : Bool) (c : Pb.Ct) : Pb.Ct := if k then ⟨c.p, Pb.againC c.q, c.A, c.B⟩ else ⟨Pb.againC c.p, c.q, c.A, c.B⟩
def Pb.twiceK (k : Bool) (i : Nat) (c : Pb.Ct) : Pb.Ct := if k then ⟨c.p, c.q, c.A, c.B ++ c.B[i]?.toList⟩ else ⟨c.p, c.q, c.A ++ c.A[i]?.toList, c.B⟩
def Pb.loseK (k : Bool) (i : Nat) (c : Pb.Ct) : Pb.Ct := if k then ⟨c.p, c.q, c.A, c.B.eraseIdx i⟩ else ⟨c.p, c.q, c.A.eraseIdx i, c.B⟩
def Pb.comeK (k : Bool) (i : Nat) (c : Pb.Ct) : Pb.Ct :=
  if k then (match c.B[i]? with | none => c | some t => ⟨(Pb.hearC c.p t).1, c.q, c.A ++ (Pb.hearC c.p t).2.toList, c.B.eraseIdx i⟩)
  else (match c.A[i]? with | none => c | some t => ⟨c.p, (Pb.hearC c.q t).1, c.A.eraseIdx i, c.B ++ (Pb.hearC c.q t).2.toList⟩)
theorem erase_map {α β : Type} (f : α → β) : ∀ (l : List α) (i : Nat), (l.map f).eraseIdx i = (l.eraseIdx i).map f
  | [], i => by simp
  | a :: l, 0 => by simp
  | a :: l, i + 1 => by simp [erase_map f l i]
def segCells (l : List Tcp.T) : List Value := l.flatMap Tcp.T.cells
theorem segCells_app (a b : List Tcp.T) : segCells (a ++ b) = segCells a ++ segCells b := by simp [segCells]
theorem segCells_one (t : Tcp.T) : segCells [t] = t.cells := by simp [segCells]
theorem segCells_len (l : List Tcp.T) : (segCells l).length = 9 * l.length := by
  induction l with
  | nil => rfl
  | cons a l ih =>
    have e : segCells (a :: l) = a.cells ++ segCells l := by simp [segCells]
    rw [e, List.length_append, ih, List.length_cons]
    show 9 + 9 * l.length = _
    omega
theorem segs_get : ∀ (l : List Tcp.T) (i : Nat) (t : Tcp.T) (j : Nat) (u : Value), l[i]? = some t → t.cells[j]? = some u → (segCells l)[i * 9 + j]? = some u
  | [], i, t, j, u, h, _ => by simp at h
  | a :: l, 0, t, j, u, h, hu => by
    have e : segCells (a :: l) = a.cells ++ segCells l := by simp [segCells]
    simp only [List.getElem?_cons_zero, Option.some.injEq] at h
    subst h
    rw [e, Nat.zero_mul, Nat.zero_add, List.getElem?_append_left (List.getElem?_eq_some_iff.1 hu).1]
    exact hu
  | a :: l, i + 1, t, j, u, h, hu => by
    have e : segCells (a :: l) = a.cells ++ segCells l := by simp [segCells]
    have h9 : a.cells.length = 9 := rfl
    rw [e, List.getElem?_append_right (by rw [h9]; omega), h9, show (i + 1) * 9 + j - 9 = i * 9 + j by omega]
    exact segs_get l i t j u (by simpa using h) hu
theorem segCells_take : ∀ (l : List Tcp.T) (i : Nat), segCells (l.take i) = (segCells l).take (i * 9)
  | [], i => by simp [segCells]
  | a :: l, 0 => by simp [segCells]
  | a :: l, i + 1 => by
    have e : ∀ l, segCells (a :: l) = a.cells ++ segCells l := fun l => by simp [segCells]
    have h9 : a.cells.length = 9 := rfl
    rw [List.take_succ_cons, e, e, segCells_take l i, List.take_append, h9, show (i + 1) * 9 - 9 = i * 9 by omega, List.take_of_length_le (l := a.cells) (by rw [h9]; omega)]
theorem segCells_drop : ∀ (l : List Tcp.T) (i : Nat), segCells (l.drop i) = (segCells l).drop (i * 9)
  | [], i => by simp [segCells]
  | a :: l, 0 => by simp
  | a :: l, i + 1 => by
    have e : segCells (a :: l) = a.cells ++ segCells l := by simp [segCells]
    have h9 : a.cells.length = 9 := rfl
    rw [List.drop_succ_cons, e, segCells_drop l i, List.drop_append, h9, show (i + 1) * 9 - 9 = i * 9 by omega, show a.cells.drop ((i + 1) * 9) = [] from List.drop_eq_nil_of_le (by rw [h9]; omega), List.nil_append]
theorem rd9_take {w : World} {b n i : Nat} {l : List Tcp.T} (h : Rd w 9 (some ⟨b, 0, none⟩) n (segCells l)) (hi : i ≤ n) : Rd w 9 (some ⟨b, 0, none⟩) i (segCells (l.take i)) := by
  have hl := h.1
  rw [segCells_len] at hl
  refine ⟨by rw [segCells_len, List.length_take]; omega, fun h0 => ?_⟩
  obtain ⟨b', off, e, hb, hc⟩ := h.2 (by omega)
  refine ⟨b', off, e, hb, fun j u hu => hc j u ?_⟩
  rw [segCells_take, List.getElem?_take] at hu
  split at hu
  · exact hu
  · cases hu
theorem rd9_drop {w : World} {b n c i : Nat} {l : List Tcp.T} (h : Rd w 9 (some ⟨b, 0, none⟩) n (segCells l)) (hi : i < n) (hc : n ≤ c) : Rd w 9 (if c = i + 1 then some ⟨b, 0, none⟩ else some ⟨b, (i + 1) * 9, none⟩) (n - (i + 1)) (segCells (l.drop (i + 1))) := by
  have hl := h.1
  rw [segCells_len] at hl
  refine ⟨by rw [segCells_len, List.length_drop]; omega, fun h0 => ?_⟩
  obtain ⟨b', off, e, hb, hcc⟩ := h.2 (by omega)
  injection e with e
  injection e with e1 e2
  subst e1 e2
  refine ⟨b, (i + 1) * 9, by rw [if_neg (by omega)], hb, fun j u hu => ?_⟩
  rw [segCells_drop, List.getElem?_drop] at hu
  have := hcc ((i + 1) * 9 + j) u hu
  simpa using this
theorem seg_cell {w : World} {base n c b i j : Nat} {A : Option Addr} {l : List Tcp.T} {t : Tcp.T} {u : Value} (h : w.ownsRow base 37 9 (.slice A n c) n (segCells l)) (hA : A = some ⟨b, 0, none⟩) (ht : l[i]? = some t) (hu : t.cells[j]? = some u) : w.cell? ⟨b, i * 9 + j, none⟩ = some u := by
  subst hA
  have hg := segs_get l i t j u ht hu
  have hlen := (List.getElem?_eq_some_iff.1 hg).1
  have hn := h.1
  obtain ⟨b', off, e, hb, hc⟩ := (Rd.of_own h).2 (by omega)
  injection e with e
  injection e with e1 e2
  subst e1 e2
  simpa using hc (i * 9 + j) u hg
theorem one_segs (l : List Tcp.T) : ∀ u ∈ segCells l, u.oneCell' = true := by
  intro u hu
  obtain ⟨x, _, hu⟩ := List.mem_flatMap.1 hu
  simp only [Tcp.T.cells, List.mem_cons, List.not_mem_nil, or_false] at hu
  rcases hu with rfl | rfl | rfl | rfl | rfl | rfl | rfl | rfl | rfl <;> rfl
theorem info_tcp : (Try.prog.info? 37).map (fun i => (i.zero, i.size, i.bytes)) = some (some (.agg #[.int .i64 0, .int .i64 0, .int .u32 0, .int .u32 0, .int .i64 0, .int .i64 0, .int .i64 0, .slice none 0 0, .slice none 0 0]), 9, 96) := by kernel_rfl
structure TwoM (w0 : World) (g : Nat) (z : Two) (w : World) : Prop where
  bel : Below w0.heap.size w0 w
  hg : w0.heap.size ≤ g
  blk : BlkV w g 48 [.int .i64 z.P0.st, .int .i64 z.P0.port, .int .i64 z.P0.to, .int .u32 z.P0.fi, .int .u32 z.P0.un, .int .u32 z.P0.ne, .int .u32 z.P0.wa, .int .i64 z.P0.wi, .int .i64 z.P0.ot, .slice z.P0.d.A z.P0.d.n z.P0.d.c, .slice z.P0.g.A z.P0.g.n z.P0.g.c, .int .i64 z.P1.st, .int .i64 z.P1.port, .int .i64 z.P1.to, .int .u32 z.P1.fi, .int .u32 z.P1.un, .int .u32 z.P1.ne, .int .u32 z.P1.wa, .int .i64 z.P1.wi, .int .i64 z.P1.ot, .slice z.P1.d.A z.P1.d.n z.P1.d.c, .slice z.P1.g.A z.P1.g.n z.P1.g.c, .slice z.A0 z.n0 z.c0, .slice z.A1 z.n1 z.c1]
  o0 : OwnP w w0.heap.size z.P0
  o1 : OwnP w w0.heap.size z.P1
  r0 : w.ownsRow w0.heap.size 37 9 (.slice z.A0 z.n0 z.c0) z.n0 (segCells z.l0)
  r1 : w.ownsRow w0.heap.size 37 9 (.slice z.A1 z.n1 z.c1) z.n1 (segCells z.l1)
  ap : apart (.slice z.A0 z.n0 z.c0) (.slice z.A1 z.n1 z.c1)
  t0 : ∀ t ∈ z.l0, OwnT w w0.heap.size t
  t1 : ∀ t ∈ z.l1, OwnT w w0.heap.size t
section
variable {w0 w w' w'' : World} {g k : Nat} {z : Two}
theorem own_ne {base n s m : Nat} {e e' : TypeId} {v : Value} {xs vs : List Value} (h : w.ownsRow base e s v n xs) (hB : BlkV w k e' vs) (hne : e ≠ e') : v.ownBlock ≠ some k := by
  rcases h.2 with ⟨rfl, _⟩ | ⟨g', cap, cur, rfl, _, hg, _⟩
  · simp [Value.ownBlock]
  · intro he
    simp only [Value.ownBlock, Option.some.injEq] at he
    subst he
    unfold BlkV at hB
    rw [hg] at hB
    injection hB with hB
    injection hB with _ h3
    exact hne h3
theorem own_two {base n s n' s' : Nat} {e e' : TypeId} {v v' : Value} {xs xs' : List Value} (h : w.ownsRow base e s v n xs) (h' : w.ownsRow base e' s' v' n' xs') (hne : e ≠ e') : v.ownBlock = none ∨ v.ownBlock ≠ v'.ownBlock := by
  rcases h.2 with ⟨rfl, _⟩ | ⟨g1, cap, cur, rfl, _, hg, _⟩
  · exact .inl rfl
  · rcases h'.2 with ⟨rfl, _⟩ | ⟨g2, cap', cur', rfl, _, hg', _⟩
    · exact .inr (by simp [Value.ownBlock])
    · refine .inr fun he => ?_
      simp only [Value.ownBlock, Option.some.injEq] at he
      subst he
      rw [hg] at hg'
      injection hg' with hg'
      injection hg' with _ h3
      exact hne h3
theorem OwnS.kept {base : Nat} {A : Option Addr} {n c : Nat} {l : List Int} {row : Option Nat} (h : OwnS w base A n c l) (hg : w.grownBy w' row) (hne : (Value.slice A n c).ownBlock = none ∨ (Value.slice A n c).ownBlock ≠ row) : OwnS w' base A n c l := ⟨h.own.kept hg hne, h.isb, h.le⟩
theorem segs_len {base n c : Nat} {A : Option Addr} {l : List Tcp.T} (h : w.ownsRow base 37 9 (.slice A n c) n (segCells l)) : l.length = n := by
  have h1 := h.1
  have h2 : (segCells l).length = 9 * l.length := by
    unfold segCells
    induction l with
    | nil => rfl
    | cons a l ih =>
      simp only [List.flatMap_cons, List.length_append, List.length_cons]
      rw [show (List.flatMap Tcp.T.cells l).length = 9 * l.length by
        clear h h1 ih
        induction l with
        | nil => rfl
        | cons b l ih => simp only [List.flatMap_cons, List.length_append, List.length_cons, ih]; simp only [Tcp.T.cells, List.length_cons, List.length_nil]; omega]
      simp only [Tcp.T.cells, List.length_cons, List.length_nil]
      omega
  omega
theorem TwoM.below (h : TwoM w0 g z w) (hb : Below w.heap.size w w') : TwoM w0 g z w' :=
  ⟨h.bel.trans (hb.mono h.bel.size), h.hg, h.blk.below hb, h.o0.below hb, h.o1.below hb, own_below h.r0 hb, own_below h.r1 hb, h.ap, fun t ht => (h.t0 t ht).below hb, fun t ht => (h.t1 t ht).below hb⟩
/-- a peer is another one -/
theorem TwoM.peer0 (h : TwoM w0 g z w) {p : Peer.P} (hp : OwnP w w0.heap.size p) (ho : OnlyB g w w') (hB : BlkV w' g 48 [.int .i64 p.st, .int .i64 p.port, .int .i64 p.to, .int .u32 p.fi, .int .u32 p.un, .int .u32 p.ne, .int .u32 p.wa, .int .i64 p.wi, .int .i64 p.ot, .slice p.d.A p.d.n p.d.c, .slice p.g.A p.g.n p.g.c, .int .i64 z.P1.st, .int .i64 z.P1.port, .int .i64 z.P1.to, .int .u32 z.P1.fi, .int .u32 z.P1.un, .int .u32 z.P1.ne, .int .u32 z.P1.wa, .int .i64 z.P1.wi, .int .i64 z.P1.ot, .slice z.P1.d.A z.P1.d.n z.P1.d.c, .slice z.P1.g.A z.P1.g.n z.P1.g.c, .slice z.A0 z.n0 z.c0, .slice z.A1 z.n1 z.c1]) : TwoM w0 g { z with P0 := p } w' :=
  ⟨ho.bel h.hg h.bel, h.hg, hB, hp.st h.blk ho (by decide), h.o1.st h.blk ho (by decide), own_st h.r0 h.blk ho (by decide), own_st h.r1 h.blk ho (by decide), h.ap, fun t ht => (h.t0 t ht).st h.blk ho (by decide), fun t ht => (h.t1 t ht).st h.blk ho (by decide)⟩
theorem TwoM.peer1 (h : TwoM w0 g z w) {p : Peer.P} (hp : OwnP w w0.heap.size p) (ho : OnlyB g w w') (hB : BlkV w' g 48 [.int .i64 z.P0.st, .int .i64 z.P0.port, .int .i64 z.P0.to, .int .u32 z.P0.fi, .int .u32 z.P0.un, .int .u32 z.P0.ne, .int .u32 z.P0.wa, .int .i64 z.P0.wi, .int .i64 z.P0.ot, .slice z.P0.d.A z.P0.d.n z.P0.d.c, .slice z.P0.g.A z.P0.g.n z.P0.g.c, .int .i64 p.st, .int .i64 p.port, .int .i64 p.to, .int .u32 p.fi, .int .u32 p.un, .int .u32 p.ne, .int .u32 p.wa, .int .i64 p.wi, .int .i64 p.ot, .slice p.d.A p.d.n p.d.c, .slice p.g.A p.g.n p.g.c, .slice z.A0 z.n0 z.c0, .slice z.A1 z.n1 z.c1]) : TwoM w0 g { z with P1 := p } w' :=
  ⟨ho.bel h.hg h.bel, h.hg, hB, h.o0.st h.blk ho (by decide), hp.st h.blk ho (by decide), own_st h.r0 h.blk ho (by decide), own_st h.r1 h.blk ho (by decide), h.ap, fun t ht => (h.t0 t ht).st h.blk ho (by decide), fun t ht => (h.t1 t ht).st h.blk ho (by decide)⟩
theorem apart.symm {u v : Value} (h : apart u v) : apart v u := fun g h1 h2 => h g h2 h1
/-- a way is another one: a row grown in place, or a new one -/
theorem TwoM.way0 (h : TwoM w0 g z w) {A : Option Addr} {n c : Nat} {l : List Tcp.T} (hgr : w.grownBy w' (Value.slice z.A0 z.n0 z.c0).ownBlock) (hb : Below w0.heap.size w0 w') (hr : w'.ownsRow w0.heap.size 37 9 (.slice A n c) n (segCells l)) (ht : ∀ t ∈ l, OwnT w w0.heap.size t)
    (hat : (Value.slice A n c).ownBlock = (Value.slice z.A0 z.n0 z.c0).ownBlock ∨ ∀ k, (Value.slice A n c).ownBlock = some k → w.heap.size ≤ k) (ho : OnlyB g w' w'') (hB : BlkV w'' g 48 [.int .i64 z.P0.st, .int .i64 z.P0.port, .int .i64 z.P0.to, .int .u32 z.P0.fi, .int .u32 z.P0.un, .int .u32 z.P0.ne, .int .u32 z.P0.wa, .int .i64 z.P0.wi, .int .i64 z.P0.ot, .slice z.P0.d.A z.P0.d.n z.P0.d.c, .slice z.P0.g.A z.P0.g.n z.P0.g.c, .int .i64 z.P1.st, .int .i64 z.P1.port, .int .i64 z.P1.to, .int .u32 z.P1.fi, .int .u32 z.P1.un, .int .u32 z.P1.ne, .int .u32 z.P1.wa, .int .i64 z.P1.wi, .int .i64 z.P1.ot, .slice z.P1.d.A z.P1.d.n z.P1.d.c, .slice z.P1.g.A z.P1.g.n z.P1.g.c, .slice A n c, .slice z.A1 z.n1 z.c1]) : TwoM w0 g { z with A0 := A, n0 := n, c0 := c, l0 := l } w'' := by
  have hG : BlkV w' g 48 [.int .i64 z.P0.st, .int .i64 z.P0.port, .int .i64 z.P0.to, .int .u32 z.P0.fi, .int .u32 z.P0.un, .int .u32 z.P0.ne, .int .u32 z.P0.wa, .int .i64 z.P0.wi, .int .i64 z.P0.ot, .slice z.P0.d.A z.P0.d.n z.P0.d.c, .slice z.P0.g.A z.P0.g.n z.P0.g.c, .int .i64 z.P1.st, .int .i64 z.P1.port, .int .i64 z.P1.to, .int .u32 z.P1.fi, .int .u32 z.P1.un, .int .u32 z.P1.ne, .int .u32 z.P1.wa, .int .i64 z.P1.wi, .int .i64 z.P1.ot, .slice z.P1.d.A z.P1.d.n z.P1.d.c, .slice z.P1.g.A z.P1.g.n z.P1.g.c, .slice z.A0 z.n0 z.c0, .slice z.A1 z.n1 z.c1] := h.blk.grown hgr (own_ne (m := 0) h.r0 h.blk (by decide))
  have kS : ∀ {A : Option Addr} {n c : Nat} {l : List Int}, OwnS w w0.heap.size A n c l → OwnS w'' w0.heap.size A n c l := fun h' => (h'.kept hgr (own_two h'.own h.r0 (by decide))).st hG ho (by decide)
  refine ⟨ho.bel h.hg hb, h.hg, hB, ⟨kS h.o0.d, kS h.o0.g⟩, ⟨kS h.o1.d, kS h.o1.g⟩, own_st hr hG ho (by decide), own_st (h.r1.kept hgr h.ap.symm.ne) hG ho (by decide), ?_, fun t h1 => kS (ht t h1), fun t h1 => kS (h.t1 t h1)⟩
  intro k h1 h2
  rcases hat with e | e
  · exact h.ap k (e.symm.trans h1) h2
  · have := e k h1
    have := (h.r1.lt k h2).2
    omega
theorem TwoM.way1 (h : TwoM w0 g z w) {A : Option Addr} {n c : Nat} {l : List Tcp.T} (hgr : w.grownBy w' (Value.slice z.A1 z.n1 z.c1).ownBlock) (hb : Below w0.heap.size w0 w') (hr : w'.ownsRow w0.heap.size 37 9 (.slice A n c) n (segCells l)) (ht : ∀ t ∈ l, OwnT w w0.heap.size t)
    (hat : (Value.slice A n c).ownBlock = (Value.slice z.A1 z.n1 z.c1).ownBlock ∨ ∀ k, (Value.slice A n c).ownBlock = some k → w.heap.size ≤ k) (ho : OnlyB g w' w'') (hB : BlkV w'' g 48 [.int .i64 z.P0.st, .int .i64 z.P0.port, .int .i64 z.P0.to, .int .u32 z.P0.fi, .int .u32 z.P0.un, .int .u32 z.P0.ne, .int .u32 z.P0.wa, .int .i64 z.P0.wi, .int .i64 z.P0.ot, .slice z.P0.d.A z.P0.d.n z.P0.d.c, .slice z.P0.g.A z.P0.g.n z.P0.g.c, .int .i64 z.P1.st, .int .i64 z.P1.port, .int .i64 z.P1.to, .int .u32 z.P1.fi, .int .u32 z.P1.un, .int .u32 z.P1.ne, .int .u32 z.P1.wa, .int .i64 z.P1.wi, .int .i64 z.P1.ot, .slice z.P1.d.A z.P1.d.n z.P1.d.c, .slice z.P1.g.A z.P1.g.n z.P1.g.c, .slice z.A0 z.n0 z.c0, .slice A n c]) : TwoM w0 g { z with A1 := A, n1 := n, c1 := c, l1 := l } w'' := by
  have hG : BlkV w' g 48 [.int .i64 z.P0.st, .int .i64 z.P0.port, .int .i64 z.P0.to, .int .u32 z.P0.fi, .int .u32 z.P0.un, .int .u32 z.P0.ne, .int .u32 z.P0.wa, .int .i64 z.P0.wi, .int .i64 z.P0.ot, .slice z.P0.d.A z.P0.d.n z.P0.d.c, .slice z.P0.g.A z.P0.g.n z.P0.g.c, .int .i64 z.P1.st, .int .i64 z.P1.port, .int .i64 z.P1.to, .int .u32 z.P1.fi, .int .u32 z.P1.un, .int .u32 z.P1.ne, .int .u32 z.P1.wa, .int .i64 z.P1.wi, .int .i64 z.P1.ot, .slice z.P1.d.A z.P1.d.n z.P1.d.c, .slice z.P1.g.A z.P1.g.n z.P1.g.c, .slice z.A0 z.n0 z.c0, .slice z.A1 z.n1 z.c1] := h.blk.grown hgr (own_ne (m := 0) h.r1 h.blk (by decide))
  have kS : ∀ {A : Option Addr} {n c : Nat} {l : List Int}, OwnS w w0.heap.size A n c l → OwnS w'' w0.heap.size A n c l := fun h' => (h'.kept hgr (own_two h'.own h.r1 (by decide))).st hG ho (by decide)
  refine ⟨ho.bel h.hg hb, h.hg, hB, ⟨kS h.o0.d, kS h.o0.g⟩, ⟨kS h.o1.d, kS h.o1.g⟩, own_st (h.r0.kept hgr h.ap.ne) hG ho (by decide), own_st hr hG ho (by decide), ?_, fun t h1 => kS (h.t0 t h1), fun t h1 => kS (ht t h1)⟩
  intro k h1 h2
  rcases hat with e | e
  · exact h.ap k h1 (e.symm.trans h2)
  · have := e k h2
    have := (h.r0.lt k h1).2
    omega
theorem mid_range {T : TypeId} {pre cs post : List Value} (h : BlkV w g T (pre ++ (cs ++ post))) : w.rangeAt g pre.length cs := fun j v hv => by
  refine h.cell ?_
  rw [List.getElem?_append_right (by omega), Nat.add_sub_cancel_left, List.getElem?_append_left (List.getElem?_eq_some_iff.1 hv).1]
  exact hv
theorem mid_there {T : TypeId} {pre cs post : List Value} (h : BlkV w g T (pre ++ (cs ++ post))) : w.there g pre.length cs.length := fun j hj => by
  refine ⟨?_, h.unfrozen _⟩
  rw [mid_range h j _ (List.getElem?_eq_getElem hj)]
  rfl
theorem mid_puts {T : TypeId} {pre cs post ds : List Value} (h : BlkV w g T (pre ++ (cs ++ post))) (hl : cs.length = ds.length) : BlkV (w.setCells g pre.length ds) g T (pre ++ (ds ++ post)) := by
  have e : ∀ (ds cs pre : List Value) (w : World), BlkV w g T (pre ++ (cs ++ post)) → cs.length = ds.length → BlkV (w.setCells g pre.length ds) g T (pre ++ (ds ++ post)) := by
    intro ds
    induction ds with
    | nil =>
      intro cs pre w h hl
      obtain rfl : cs = [] := List.eq_nil_of_length_eq_zero hl
      exact h
    | cons d ds ih =>
      intro cs pre w h hl
      cases cs with
      | nil => cases hl
      | cons c cs =>
        have h1 := BlkV.put h pre.length d
        have e : (pre ++ (c :: cs ++ post)).set pre.length d = (pre ++ [d]) ++ (cs ++ post) := by simp
        rw [e] at h1
        have h2 := ih cs (pre ++ [d]) _ h1 (by simpa using hl)
        simp only [List.length_append, List.length_cons, List.length_nil] at h2
        have e2 : pre ++ [d] ++ (ds ++ post) = pre ++ (d :: ds ++ post) := by simp
        rw [e2] at h2
        exact h2
  exact e ds cs pre w h hl
theorem TwoM.drew (h : TwoM w0 g z w) : TwoM w0 g z w.drew := ⟨bel_d h.bel, h.hg, h.blk, h.o0.drew, h.o1.drew, h.r0, h.r1, h.ap, fun t ht => OwnS.drew (h.t0 t ht), fun t ht => OwnS.drew (h.t1 t ht)⟩
variable {P : Program} {ops : Array Oper} {op : Oper} {a : Act} {Q : Exit → Act → World → Prop} {K : Act → World → Prop} {T : TypeId} {pre cs ds post : List Value}
theorem wp_ldM (ty : TypeId) (x : Operand) (d : TypeDesc) (ho : op.op = .load ty x) (hx : a.eval x = .pointer (some ⟨g, pre.length, none⟩)) (h : BlkV w g T (pre ++ (cs ++ post)))
    (hu : P.underlying ty = some d) (hd : d.isRow = true) (hi : (P.info? ty).map (·.size) = some cs.length)
    (hk : K (a.put op.dst (.agg cs.toArray)) w) : op.wp P a w K Q :=
  wp_load_mid ty x ho g pre.length hx cs d (mid_range h) hu hd hi hk
theorem wpList_ldM {rest : List Oper} (ty : TypeId) (x : Operand) (d : TypeDesc) (ho : op.op = .load ty x) (hgd : op.guard = none) (hx : a.eval x = .pointer (some ⟨g, pre.length, none⟩)) (h : BlkV w g T (pre ++ (cs ++ post)))
    (hu : P.underlying ty = some d) (hd : d.isRow = true) (hi : (P.info? ty).map (·.size) = some cs.length)
    (hk : wpList P ops Q rest (a.put op.dst (.agg cs.toArray)) w) : wpList P ops Q (op :: rest) a w :=
  wpList_load_mid hgd ty x ho g pre.length hx cs d (mid_range h) hu hd hi hk
/-- append onto a row of the call's own, in a drawn region -/
theorem step_app9 {o : Oper} {E : Prop} (hw : Region.wanted o (yielded ops a.tmps) = true) (s x : Operand) (t : TypeId)
    (ho : o.op = .call { callee := .builtin .append, args := #[s, x], argTypes := #[t, t] })
    (a0 : World) (hbel : Below a0.heap.size a0 w) (e : TypeId) (z : Value) (size bytes : Nat) (ht : P.underlying t = some (.slice e))
    (hinfo : (P.info? e).map (fun i => (i.zero, i.size, i.bytes)) = some (some z, size, bytes)) (hzs : z.cells.size = size) (hsz : 0 < size)
    (v : Value) (n : Nat) (xs : List Value) (hs : a.eval s = v) (hown : w.ownsRow a0.heap.size e size v n xs)
    (A : Option Addr) (m c : Nat) (news : List Value) (hx : a.eval x = .slice A m c) (hr : Rd w size A m news) (h1 : ∀ u ∈ news, u.oneCell' = true)
    (h63 : n + m ≤ maxLen) (hbytes : (n + m) * bytes ≤ 140737488355328)
    (h : ∀ A' c' w', w'.ownsRow a0.heap.size e size (.slice A' (n + m) c') (n + m) (xs ++ news) → Below a0.heap.size a0 w' → w.grownBy w' v.ownBlock → ((Value.slice A' (n + m) c').ownBlock = v.ownBlock ∨ (Value.slice A' (n + m) c').ownBlock = some w.heap.size) → K (a.put o.dst (.slice A' (n + m) c')) w') :
    if Region.wanted o (yielded ops a.tmps) = true then Oper.wp P o a w K Q else E := by
  rw [if_pos hw]
  obtain ⟨i, hi, hz, hsize, hby⟩ := info_parts hinfo
  obtain ⟨A', c', w', hrun, h2, h3, h4⟩ := run_append_rd (P := P) w a0.heap.size t o.type e i z size bytes ht hi hz hsize hby hzs hsz _ n xs hown A m c news hr h1 h63 hbytes hbel.size
  unfold Oper.wp execOp
  simp only [ho, resolve, invoke, builtin, Sem.run_bind, Sem.run_pure, Result.andThen_ok, List.map_toArray, List.map_cons, List.map_nil, hs, hx, hrun]
  exact h A' c' w' h2 (hbel.grown h3 hbel.size (fun g hg => (hown.lt g hg).1)) h3 h4
theorem rd_seg (w : World) (t : Tcp.T) : Rd (w.alloc (.cells #[.int .i64 t.sp, .int .i64 t.dp, .int .u32 t.sq, .int .u32 t.ak, .int .i64 t.fl, .int .i64 t.wi, .int .i64 t.ur, .slice t.Ao t.no t.co, .slice t.Ab t.nb t.cb] 37)) 9 (some ⟨w.heap.size, 0, none⟩) 1 t.cells := by
  refine ⟨rfl, fun _ => ⟨_, _, rfl, by simp, fun j u hu => ?_⟩⟩
  rw [cell_of_row _ _ (0 + j) #[.int .i64 t.sp, .int .i64 t.dp, .int .u32 t.sq, .int .u32 t.ak, .int .i64 t.fl, .int .i64 t.wi, .int .i64 t.ur, .slice t.Ao t.no t.co, .slice t.Ab t.nb t.cb] 37 (0, 0) (heap_alloc_new w _)]
  rw [Nat.zero_add]
  simpa [Tcp.T.cells] using hu
theorem own_lit9 (w : World) (e : TypeId) (g : Nat) (hg : g = w.heap.size) : (w.alloc (.cells #[] e)).ownsRow w.heap.size e 9 (.slice (some ⟨g, 0, none⟩) 0 0) 0 [] := by
  subst hg
  have := World.ownsRow_lit (base := w.heap.size) (e := e) (size := 9) w #[] 0 (Nat.le_refl _) (Nat.zero_le _) (by simp)
  simpa using this
theorem ct_gen {K : Act → World → Prop} {a : Act} {w0 : World} {o : Obj} (h : ∀ x, x = w0.alloc o → K a x) : K a (w0.alloc o) := h _ rfl
theorem ct_gend {K : Act → World → Prop} {a : Act} {w0 : World} {o : Obj} (h : ∀ x, x = (w0.alloc o).drew → K a x) : K a (w0.alloc o).drew := h _ rfl
theorem wp_stM (ty : TypeId) (x y : Operand) (hd : op.dst = none) (ho : op.op = .store ty x y) (hx : a.eval x = .pointer (some ⟨g, pre.length, none⟩)) (hy : a.eval y = .agg ds.toArray) (h : BlkV w g T (pre ++ (cs ++ post))) (hl : cs.length = ds.length)
    (hi : (P.info? ty).map (·.size) = some ds.length) (h1 : ds.all (·.oneCell') = true)
    (hk : ∀ w', BlkV w' g T (pre ++ (ds ++ post)) → OnlyB g w w' → K a w') : op.wp P a w K Q :=
  wp_store_mid ty x y ho g pre.length ds.toArray hx hy (by have := mid_there h; rw [hl] at this; simpa using this) (by simpa using hi) (by simpa using h1) (by rw [hd]; exact hk _ (by simpa using mid_puts h hl) (by simpa using OnlyB.sets w g pre.length ds))
end
end Go.Proofs.Ytihhcalgjkkalaa
