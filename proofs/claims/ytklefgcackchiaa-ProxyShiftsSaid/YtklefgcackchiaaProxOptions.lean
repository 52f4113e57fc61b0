/- The walk of proxy.options: each option changed, in memory of its own. -/
import Derived.Test.YtklefgcackchiaaProxBack
import Derived.Test.YtklefgcackchiaaTcpOpen
import Derived.Test.YtklefgcackchiaaBytesS
import Derived.Shelf.Abstract
namespace Go.Proofs.Ytklefgcackchiaa
open Go.RowKit
set_option linter.unusedVariables false
set_option linter.unusedSimpArgs false
def Tcp.Opt.con (o : Tcp.Opt) : Prox.O := (o.kind, o.data)
/-- an option in memory of the call's own -/
structure Tcp.Opt.own (o : Tcp.Opt) (w : World) (base : Nat) : Prop where
  row : w.ownsRow base 5 1 (.slice o.A o.n o.c) o.n (bs o.data)
  isb : isB o.data
  nc : o.n ≤ o.c
  cc : o.c ≤ 9223372036854775807
  k0 : -9223372036854775808 ≤ o.kind
  k1 : o.kind ≤ 9223372036854775807
def optCells (l : List Tcp.Opt) : List Value := l.flatMap Tcp.Opt.cells
theorem optCells_len (l : List Tcp.Opt) : (optCells l).length = l.length * 2 := by
  induction l with
  | nil => rfl
  | cons o t ih => simp only [optCells, List.flatMap_cons, List.length_append, List.length_cons] at ih ⊢; rw [ih]; simp [Tcp.Opt.cells]; omega
theorem optCells_snoc (l : List Tcp.Opt) (o : Tcp.Opt) : optCells (l ++ [o]) = optCells l ++ [.int .i64 o.kind, .slice o.A o.n o.c] := by simp [optCells, Tcp.Opt.cells]
theorem optCells_get : ∀ (l : List Tcp.Opt) (j : Nat) (o : Tcp.Opt), l[j]? = some o → (optCells l)[j * 2]? = some (.int .i64 o.kind) ∧ (optCells l)[j * 2 + 1]? = some (.slice o.A o.n o.c)
  | [], j, o, h => by simp at h
  | x :: t, 0, o, h => by
    simp at h
    subst h
    exact ⟨rfl, rfl⟩
  | x :: t, j + 1, o, h => by
    have := optCells_get t j o (by simpa using h)
    have e : optCells (x :: t) = .int .i64 x.kind :: .slice x.A x.n x.c :: optCells t := rfl
    rw [e, show (j + 1) * 2 = j * 2 + 2 by omega]
    exact this
theorem opt_info : (Try.prog.info? 41).map (fun i => (i.zero, i.size, i.bytes)) = some (some (.agg #[.int .i64 0, .slice none 0 0]), 2, 32) := by kernel_rfl
theorem opt_size {l : List Value} (h : l.length = 2) : (Try.prog.info? 41).map (·.size) = some l.length := by
  rw [h]
  kernel_rfl
theorem tcp_size {l : List Value} (h : l.length = 9) : (Try.prog.info? 26).map (·.size) = some l.length := by
  rw [h]
  kernel_rfl
theorem one_opt (k : Int) (A : Option Addr) (n c : Nat) : ∀ u ∈ [Value.int .i64 k, Value.slice A n c], u.oneCell' = true := by
  intro u hu
  simp only [List.mem_cons, List.not_mem_nil, or_false] at hu
  rcases hu with rfl | rfl <;> rfl
theorem rd_pair (w : World) (T : TypeId) (a b : Value) : Rd (w.alloc (.cells #[a, b] T)) 2 (some ⟨w.heap.size, 0, none⟩) 1 [a, b] := by
  refine ⟨rfl, fun _ => ⟨_, _, rfl, by simp, fun j u hu => ?_⟩⟩
  rw [cell_of_row _ _ (0 + j) #[a, b] T (0, 0) (heap_alloc_new w _)]
  rw [Nat.zero_add]
  simpa using hu
/-- what is asked of the change -/
def Change (f : Nat) (sh : Value) (F : Prox.O → Prox.O) : Prop :=
  ∀ (base : Nat) (w : World) (k : Int) (A : Option Addr) (n c : Nat) (l : List Int), w.ownsRow base 5 1 (.slice A n c) n (bs l) → isB l → n ≤ 9223372036854775807 → Calls Try.prog f #[sh, .agg #[.int .i64 k, .slice A n c]] w (ThereR base A n c (F (k, l)).2 w)
theorem Tcp.Opt.own.below {o : Tcp.Opt} {w w' : World} {base : Nat} (h : o.own w base) (hb : Below w.heap.size w w') : o.own w' base := ⟨own_below h.row hb, h.isb, h.nc, h.cc, h.k0, h.k1⟩
theorem Tcp.Opt.own.store {o : Tcp.Opt} {w w' : World} {base g : Nat} {T : TypeId} {l : List Value} (h : o.own w base) (hB : BlkV w g T l) (ho : OnlyB g w w') (hne : 5 ≠ T) : o.own w' base := ⟨own_st h.row hB ho hne, h.isb, h.nc, h.cc, h.k0, h.k1⟩
theorem own_apart2 {w : World} {b1 b2 : Nat} {e1 e2 : TypeId} {s1 s2 : Nat} {v1 v2 : Value} {n1 n2 : Nat} {xs ys : List Value} (h1 : w.ownsRow b1 e1 s1 v1 n1 xs) (h2 : w.ownsRow b2 e2 s2 v2 n2 ys) (hne : e1 ≠ e2) : v1.ownBlock = none ∨ v1.ownBlock ≠ v2.ownBlock := by
  rcases h1.2 with ⟨rfl, _⟩ | ⟨g, cap, cur, rfl, _, hg, _⟩
  · exact Or.inl rfl
  · refine Or.inr fun he => ?_
    rcases h2.2 with ⟨rfl, _⟩ | ⟨g', cap', cur', rfl, _, hg', _⟩
    · cases he
    · simp only [Value.ownBlock, Option.some.injEq] at he
      subst he
      rw [hg] at hg'
      injection hg' with hg'
      injection hg' with _ h3
      exact hne h3
theorem Tcp.Opt.own.app {o : Tcp.Opt} {w w' : World} {base b2 : Nat} (h : o.own w base) {v : Value} {n : Nat} {xs : List Value} (ho : w.ownsRow b2 41 2 v n xs) (hg : w.grownBy w' v.ownBlock) : o.own w' base :=
  ⟨h.row.kept hg (own_apart2 h.row ho (by decide)), h.isb, h.nc, h.cc, h.k0, h.k1⟩
/-- another row of the call's own turns: its block is none of those that were there at w0, and o was there -/
theorem Tcp.Opt.own.turn {o : Tcp.Opt} {w w' : World} {base : Nat} (h : o.own w base) {v : Value} (hg : w.grownBy w' v.ownBlock) (hne : (Value.slice o.A o.n o.c).ownBlock = none ∨ (Value.slice o.A o.n o.c).ownBlock ≠ v.ownBlock) : o.own w' base :=
  ⟨h.row.kept hg hne, h.isb, h.nc, h.cc, h.k0, h.k1⟩
/-- a segment in memory of the call's own -/
structure TOwn (u : Tcp.T) (w : World) (base : Nat) : Prop where
  row : w.ownsRow base 41 2 (.slice u.Ao u.no u.co) u.no (optCells u.opts)
  opts : ∀ o ∈ u.opts, o.own w base
  len : u.opts.length = u.no
  body : w.ownsRow base 5 1 (.slice u.Ab u.nb u.cb) u.nb (bs u.body)
  isb : isB u.body
  sq : 0 ≤ u.sq ∧ u.sq ≤ 4294967295
  ak : 0 ≤ u.ak ∧ u.ak ≤ 4294967295
  fl : -9223372036854775808 ≤ u.fl ∧ u.fl ≤ 9223372036854775807
  wi : -9223372036854775808 ≤ u.wi ∧ u.wi ≤ 9223372036854775807
theorem TOwn.below {u : Tcp.T} {w w' : World} {base : Nat} (h : TOwn u w base) (hb : Below w.heap.size w w') : TOwn u w' base :=
  ⟨own_below h.row hb, fun o ho => (h.opts o ho).below hb, h.len, own_below h.body hb, h.isb, h.sq, h.ak, h.fl, h.wi⟩
theorem TOwn.weak {u : Tcp.T} {w : World} {base base' : Nat} (h : TOwn u w base) (hb : base' ≤ base) : TOwn u w base' :=
  ⟨own_weak h.row hb, fun o ho => ⟨own_weak (h.opts o ho).row hb, (h.opts o ho).isb, (h.opts o ho).nc, (h.opts o ho).cc, (h.opts o ho).k0, (h.opts o ho).k1⟩, h.len, own_weak h.body hb, h.isb, h.sq, h.ak, h.fl, h.wi⟩
theorem TOwn.store {u : Tcp.T} {w w' : World} {base g : Nat} {T : TypeId} {l : List Value} (h : TOwn u w base) (hB : BlkV w g T l) (ho : OnlyB g w w') (h1 : 5 ≠ T) (h2 : 41 ≠ T) : TOwn u w' base :=
  ⟨own_st h.row hB ho h2, fun o hm => (h.opts o hm).store hB ho h1, h.len, own_st h.body hB ho h1, h.isb, h.sq, h.ak, h.fl, h.wi⟩
def OptsR (F : Prox.O → Prox.O) (t : Tcp.T) (w : World) (e : Ending) (w' : World) : Prop :=
  Below w.heap.size w w' ∧ ∃ u : Tcp.T, e = .returned (.agg u.cells.toArray) ∧ TOwn u w' w.heap.size ∧ u.sp = t.sp ∧ u.dp = t.dp ∧ u.sq = t.sq ∧ u.ak = t.ak ∧ u.fl = t.fl ∧ u.wi = t.wi ∧ u.ur = t.ur ∧ u.opts.map Tcp.Opt.con = (t.opts.map Tcp.Opt.con).map F ∧ u.body = t.body
end Go.Proofs.Ytklefgcackchiaa
