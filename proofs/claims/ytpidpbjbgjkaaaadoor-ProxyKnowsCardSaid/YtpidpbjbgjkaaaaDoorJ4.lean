/- The walk of proxy.options: each option changed, in memory of its own. The walk of proxy.options (the loop). The walks of proxy.ToServer, ToClient. The walk of bytes.Equal. The walk of tcp.Same, at two segments that say the same. The walk of the reference's Short: what it lets by is small. The walk of seq.Step alone (a seat that has no seq.Dist). -/
import Derived.Test.YtpidpbjbgjkaaaaDoorJ2
import Derived.Test.YtpidpbjbgjkaaaaDoorJ3
import Derived.Shelf.Abstract
import Derived.Test.YtpidpbjbgjkaaaaDoorChecked
import Derived.Test.YtpidpbjbgjkaaaaDoorJ1
import Derived.Test.YtpidpbjbgjkaaaaDoorOwn
namespace Go.Proofs.YtpidpbjbgjkaaaaDoor
open Go.RowKit
set_option maxRecDepth 8000
set_option linter.unusedVariables false
set_option linter.unusedSimpArgs false
def Tcp.Opt.con (o : Tcp.Opt) : Prox.O := (o.kind, o.data)
/-- an option in memory of the call's own -/
structure Tcp.Opt.own (o : Tcp.Opt) (w : World) (base : Nat) : Prop where
  row : w.ownsRow base 5 1 (.slice o.A o.n o.c) o.n (bs o.data)
  isb : isB o.data
  nc : o.n ≤ o.c
  cc : o.c ≤ 9223372036854775807
  k0 : -9223372036854775808 ≤ o.kind
  k1 : o.kind ≤ 9223372036854775807
def optCells (l : List Tcp.Opt) : List Value := l.flatMap Tcp.Opt.cells
theorem optCells_len (l : List Tcp.Opt) : (optCells l).length = l.length * 2 := by
  induction l with
  | nil => rfl
  | cons o t ih => simp only [optCells, List.flatMap_cons, List.length_append, List.length_cons] at ih ⊢; rw [ih]; simp [Tcp.Opt.cells]; omega
theorem optCells_snoc (l : List Tcp.Opt) (o : Tcp.Opt) : optCells (l ++ [o]) = optCells l ++ [.int .i64 o.kind, .slice o.A o.n o.c] := by simp [optCells, Tcp.Opt.cells]
theorem optCells_get : ∀ (l : List Tcp.Opt) (j : Nat) (o : Tcp.Opt), l[j]? = some o → (optCells l)[j * 2]? = some (.int .i64 o.kind) ∧ (optCells l)[j * 2 + 1]? = some (.slice o.A o.n o.c)
  | [], j, o, h => by simp at h
  | x :: t, 0, o, h => by
    simp at h
    subst h
    exact ⟨rfl, rfl⟩
  | x :: t, j + 1, o, h => by
    have := optCells_get t j o (by simpa using h)
    have e : optCells (x :: t) = .int .i64 x.kind :: .slice x.A x.n x.c :: optCells t := rfl
    rw [e, show (j + 1) * 2 = j * 2 + 2 by omega]
    exact this
theorem opt_info : (Tryd.prog.info? 62).map (fun i => (i.zero, i.size, i.bytes)) = some (some (.agg #[.int .i64 0, .slice none 0 0]), 2, 32) := by kernel_rfl
theorem opt_size {l : List Value} (h : l.length = 2) : (Tryd.prog.info? 62).map (·.size) = some l.length := by
  rw [h]
  kernel_rfl
theorem tcp_size {l : List Value} (h : l.length = 9) : (Tryd.prog.info? 29).map (·.size) = some l.length := by
  rw [h]
  kernel_rfl
theorem one_opt (k : Int) (A : Option Addr) (n c : Nat) : ∀ u ∈ [Value.int .i64 k, Value.slice A n c], u.oneCell' = true := by
  intro u hu
  simp only [List.mem_cons, List.not_mem_nil, or_false] at hu
  rcases hu with rfl | rfl <;> rfl
theorem rd_pair (w : World) (T : TypeId) (a b : Value) : Rd (w.alloc (.cells #[a, b] T)) 2 (some ⟨w.heap.size, 0, none⟩) 1 [a, b] := by
  refine ⟨rfl, fun _ => ⟨_, _, rfl, by simp, fun j u hu => ?_⟩⟩
  rw [cell_of_row _ _ (0 + j) #[a, b] T (0, 0) (heap_alloc_new w _)]
  rw [Nat.zero_add]
  simpa using hu
/-- what is asked of the change -/
def Change (f : Nat) (sh : Value) (F : Prox.O → Prox.O) : Prop :=
  ∀ (base : Nat) (w : World) (k : Int) (A : Option Addr) (n c : Nat) (l : List Int), w.ownsRow base 5 1 (.slice A n c) n (bs l) → isB l → n ≤ 9223372036854775807 → Calls Tryd.prog f #[sh, .agg #[.int .i64 k, .slice A n c]] w (ThereR base A n c (F (k, l)).2 w)
theorem Tcp.Opt.own.below {o : Tcp.Opt} {w w' : World} {base : Nat} (h : o.own w base) (hb : Below w.heap.size w w') : o.own w' base := ⟨own_below h.row hb, h.isb, h.nc, h.cc, h.k0, h.k1⟩
theorem Tcp.Opt.own.store {o : Tcp.Opt} {w w' : World} {base g : Nat} {T : TypeId} {l : List Value} (h : o.own w base) (hB : BlkV w g T l) (ho : OnlyB g w w') (hne : 5 ≠ T) : o.own w' base := ⟨own_st h.row hB ho hne, h.isb, h.nc, h.cc, h.k0, h.k1⟩
theorem own_apart2 {w : World} {b1 b2 : Nat} {e1 e2 : TypeId} {s1 s2 : Nat} {v1 v2 : Value} {n1 n2 : Nat} {xs ys : List Value} (h1 : w.ownsRow b1 e1 s1 v1 n1 xs) (h2 : w.ownsRow b2 e2 s2 v2 n2 ys) (hne : e1 ≠ e2) : v1.ownBlock = none ∨ v1.ownBlock ≠ v2.ownBlock := by
  rcases h1.2 with ⟨rfl, _⟩ | ⟨g, cap, cur, rfl, _, hg, _⟩
  · exact Or.inl rfl
  · refine Or.inr fun he => ?_
    rcases h2.2 with ⟨rfl, _⟩ | ⟨g', cap', cur', rfl, _, hg', _⟩
    · cases he
    · simp only [Value.ownBlock, Option.some.injEq] at he
      subst he
      rw [hg] at hg'
      injection hg' with hg'
      injection hg' with _ h3
      exact hne h3
theorem Tcp.Opt.own.app {o : Tcp.Opt} {w w' : World} {base b2 : Nat} (h : o.own w base) {v : Value} {n : Nat} {xs : List Value} (ho : w.ownsRow b2 62 2 v n xs) (hg : w.grownBy w' v.ownBlock) : o.own w' base :=
  ⟨h.row.kept hg (own_apart2 h.row ho (by decide)), h.isb, h.nc, h.cc, h.k0, h.k1⟩
/-- another row of the call's own turns: its block is none of those that were there at w0, and o was there -/
theorem Tcp.Opt.own.turn {o : Tcp.Opt} {w w' : World} {base : Nat} (h : o.own w base) {v : Value} (hg : w.grownBy w' v.ownBlock) (hne : (Value.slice o.A o.n o.c).ownBlock = none ∨ (Value.slice o.A o.n o.c).ownBlock ≠ v.ownBlock) : o.own w' base :=
  ⟨h.row.kept hg hne, h.isb, h.nc, h.cc, h.k0, h.k1⟩
/-- a segment in memory of the call's own -/
structure TOwn (u : Tcp.T) (w : World) (base : Nat) : Prop where
  row : w.ownsRow base 62 2 (.slice u.Ao u.no u.co) u.no (optCells u.opts)
  opts : ∀ o ∈ u.opts, o.own w base
  len : u.opts.length = u.no
  body : w.ownsRow base 5 1 (.slice u.Ab u.nb u.cb) u.nb (bs u.body)
  isb : isB u.body
  sq : 0 ≤ u.sq ∧ u.sq ≤ 4294967295
  ak : 0 ≤ u.ak ∧ u.ak ≤ 4294967295
  fl : -9223372036854775808 ≤ u.fl ∧ u.fl ≤ 9223372036854775807
  wi : -9223372036854775808 ≤ u.wi ∧ u.wi ≤ 9223372036854775807
theorem TOwn.below {u : Tcp.T} {w w' : World} {base : Nat} (h : TOwn u w base) (hb : Below w.heap.size w w') : TOwn u w' base :=
  ⟨own_below h.row hb, fun o ho => (h.opts o ho).below hb, h.len, own_below h.body hb, h.isb, h.sq, h.ak, h.fl, h.wi⟩
theorem TOwn.weak {u : Tcp.T} {w : World} {base base' : Nat} (h : TOwn u w base) (hb : base' ≤ base) : TOwn u w base' :=
  ⟨own_weak h.row hb, fun o ho => ⟨own_weak (h.opts o ho).row hb, (h.opts o ho).isb, (h.opts o ho).nc, (h.opts o ho).cc, (h.opts o ho).k0, (h.opts o ho).k1⟩, h.len, own_weak h.body hb, h.isb, h.sq, h.ak, h.fl, h.wi⟩
theorem TOwn.store {u : Tcp.T} {w w' : World} {base g : Nat} {T : TypeId} {l : List Value} (h : TOwn u w base) (hB : BlkV w g T l) (ho : OnlyB g w w') (h1 : 5 ≠ T) (h2 : 62 ≠ T) : TOwn u w' base :=
  ⟨own_st h.row hB ho h2, fun o hm => (h.opts o hm).store hB ho h1, h.len, own_st h.body hB ho h1, h.isb, h.sq, h.ak, h.fl, h.wi⟩
def OptsR (F : Prox.O → Prox.O) (t : Tcp.T) (w : World) (e : Ending) (w' : World) : Prop :=
  Below w.heap.size w w' ∧ ∃ u : Tcp.T, e = .returned (.agg u.cells.toArray) ∧ TOwn u w' w.heap.size ∧ u.sp = t.sp ∧ u.dp = t.dp ∧ u.sq = t.sq ∧ u.ak = t.ak ∧ u.fl = t.fl ∧ u.wi = t.wi ∧ u.ur = t.ur ∧ u.opts.map Tcp.Opt.con = (t.opts.map Tcp.Opt.con).map F ∧ u.body = t.body
end Go.Proofs.YtpidpbjbgjkaaaaDoor
namespace Go.Proofs.YtpidpbjbgjkaaaaDoor
open Go.RowKit
set_option maxRecDepth 8000
set_option linter.unusedVariables false
set_option linter.unusedSimpArgs false
theorem own_new {w0 w1 : World} {base : Nat} {e : TypeId} {s n : Nat} {v : Value} {xs : List Value} {ob : Obj} (h : w0.ownsRow base e s v n xs) (ho : OnlyB w0.heap.size (w0.alloc ob) w1) : w1.ownsRow base e s v n xs :=
  (own_below h ((Below.refl _ _).alloc (Nat.le_refl _) ob)).kept ho.grown (by
    cases hb : v.ownBlock with
    | none => exact .inl rfl
    | some k => exact .inr (fun he => by
        injection he with he
        have := (h.lt k hb).2
        omega))
theorem BlkV.grownN {w w' : World} {g : Nat} {T : TypeId} {l : List Value} {r : Option Nat} (h : BlkV w g T l) (hg : w.grownBy w' r) (hne : ∀ k, r = some k → g ≠ k) : BlkV w' g T l := (hg.block g h.lt (fun e => hne g e.symm rfl)).trans h
theorem below_by {B : Nat} {a w w' : World} {r : Option Nat} (h : Below B a w) (hg : w.grownBy w' r) (hr : ∀ k, r = some k → B ≤ k) (hs : B ≤ w.heap.size) : Below B a w' :=
  h.grown hg hs hr
theorem own_nb {w w' : World} {base g : Nat} {e : TypeId} {s n : Nat} {v : Value} {xs : List Value} (h : w.ownsRow base e s v n xs) (ho : OnlyB g w w') (hb : ∀ k, v.ownBlock = some k → k ≠ g) : w'.ownsRow base e s v n xs :=
  h.kept ho.grown (by
    cases hv : v.ownBlock with
    | none => exact .inl rfl
    | some k => exact .inr (fun he => by
        injection he with he
        exact hb k hv he))
theorem own_cap {w : World} {base : Nat} {e : TypeId} {s n c : Nat} {A : Option Addr} {xs : List Value} (h : w.ownsRow base e s (.slice A n c) n xs) : n ≤ c ∧ c ≤ 9223372036854775807 := by
  rcases h.2 with ⟨hv, _⟩ | ⟨g, cap, cur, hv, hb, hg, h1, h2, _⟩
  · injection hv with h3 h4 h5
    omega
  · injection hv with h3 h4 h5
    unfold maxLen at h2
    omega
theorem opts_of_row {w : World} {base : Nat} {A : Option Addr} {c : Nat} {os : List Tcp.Opt} (h : w.ownsRow base 62 2 (.slice A os.length c) os.length (optCells os)) (ho : ∀ o ∈ os, o.own w base) : Tcp.OptsRd w A os.length os := by
  refine ⟨rfl, fun o hm => ⟨Rd.of_own (ho o hm).row, (ho o hm).isb, (ho o hm).nc, (ho o hm).cc, (ho o hm).k0, (ho o hm).k1⟩, fun hn => ?_⟩
  obtain ⟨g, rfl, _, hg, _, _⟩ := own_blk h hn
  refine ⟨g, 0, rfl, hg, fun j o hj => ?_⟩
  have hjl := (List.getElem?_eq_some_iff.1 hj).1
  obtain ⟨e0, e1⟩ := optCells_get os j o hj
  rw [Nat.zero_add]
  exact ⟨(h.cellAt (j * 2) (by omega)).trans e0, (h.cellAt (j * 2 + 1) (by omega)).trans e1⟩
theorem TOwn.ok {u : Tcp.T} {w : World} {base : Nat} (h : TOwn u w base) : u.ok w := by
  have h1 := own_cap h.row
  have h2 := own_cap h.body
  have h3 := h.row
  have e := h.len
  refine ⟨h.sq, h.ak, h.fl, h.wi, ?_, h1.1, h1.2, Rd.of_own h.body, h.isb, h2.1, h2.2⟩
  rw [← e] at h3 ⊢
  exact opts_of_row h3 h.opts
theorem cells9' {w : World} {g : Nat} {T : TypeId} {v0 v1 v2 v3 v4 v5 v6 v7 v8 : Value} (h : BlkV w g T [v0, v1, v2, v3, v4, v5, v6, v7, v8]) : w.cell? ⟨g, 0, none⟩ = some v0 ∧ w.cell? ⟨g, 1, none⟩ = some v1 ∧ w.cell? ⟨g, 2, none⟩ = some v2 ∧ w.cell? ⟨g, 3, none⟩ = some v3 ∧ w.cell? ⟨g, 4, none⟩ = some v4 ∧ w.cell? ⟨g, 5, none⟩ = some v5 ∧ w.cell? ⟨g, 6, none⟩ = some v6 ∧ w.cell? ⟨g, 7, none⟩ = some v7 ∧ w.cell? ⟨g, 8, none⟩ = some v8 :=
  ⟨h.cell rfl, h.cell rfl, h.cell rfl, h.cell rfl, h.cell rfl, h.cell rfl, h.cell rfl, h.cell rfl, h.cell rfl⟩
set_option maxHeartbeats 8000000 in
theorem poptions_spec (f : Nat) (shv : Value) (F : Prox.O → Prox.O) (sp dp sq ak fl wi ur : Int) (Ao : Option Addr) (no co : Nat) (Ab : Option Addr) (nb cb : Nat) (opts : List Tcp.Opt) (body : List Int) (w : World) (ht : (⟨sp, dp, sq, ak, fl, wi, ur, Ao, no, co, Ab, nb, cb, opts, body⟩ : Tcp.T).ok w) (hno : no ≤ 60) (hdat : ∀ o ∈ opts, o.n ≤ 300) (hnb : nb ≤ 3000)
    (eg : ∀ args w, (callFunc f args).run Tryd.prog w = .ok (.enter f args) w) (hc : Change f shv F) (hlen : ∀ o, (F o).2.length = o.2.length ∧ (F o).1 = o.1) (hFB : ∀ o : Prox.O, isB o.2 → isB (F o).2) :
    Calls Tryd.prog 33 #[.agg #[.int .i64 sp, .int .i64 dp, .int .u32 sq, .int .u32 ak, .int .i64 fl, .int .i64 wi, .int .i64 ur, .slice Ao no co, .slice Ab nb cb], .func (.func f) #[shv] #[]] w (OptsR F ⟨sp, dp, sq, ak, fl, wi, ur, Ao, no, co, Ab, nb, cb, opts, body⟩ w) := by
  obtain ⟨W, hW⟩ : ∃ W, W = (w.alloc (.cells #[.int .i64 sp, .int .i64 dp, .int .u32 sq, .int .u32 ak, .int .i64 fl, .int .i64 wi, .int .i64 ur, .slice Ao no co, .slice Ab nb cb] 29)).alloc (.cells #[.int .i64 0, .int .i64 0, .int .u32 0, .int .u32 0, .int .i64 0, .int .i64 0, .int .i64 0, .slice none 0 0, .slice none 0 0] 29) := ⟨_, rfl⟩
  have hbW : Below w.heap.size w W := by rw [hW]; exact ((Below.refl _ _).alloc (Nat.le_refl _) _).alloc (by simp) _
  have hWs : w.heap.size + 1 < W.heap.size := by rw [hW]; simp
  have B0 : BlkV W w.heap.size 29 [.int .i64 sp, .int .i64 dp, .int .u32 sq, .int .u32 ak, .int .i64 fl, .int .i64 wi, .int .i64 ur, .slice Ao no co, .slice Ab nb cb] := by rw [hW]; exact (BlkV.new w _ _).alloc _
  have B1 : BlkV W (w.heap.size + 1) 29 [.int .i64 0, .int .i64 0, .int .u32 0, .int .u32 0, .int .i64 0, .int .i64 0, .int .i64 0, .slice none 0 0, .slice none 0 0] := by rw [hW]; exact BlkV.new_at (w.alloc (.cells #[.int .i64 sp, .int .i64 dp, .int .u32 sq, .int .u32 ak, .int .i64 fl, .int .i64 wi, .int .i64 ur, .slice Ao no co, .slice Ab nb cb] 29)) _ _ (by simp)
  have HTB : Hid (Rd W 1 Ab nb (bs body) ∧ isB body) := Lib.hid ⟨ht.body.below hbW, ht.isb⟩
  have HTU : Hid ((0 ≤ sq ∧ sq ≤ 4294967295) ∧ (0 ≤ ak ∧ ak ≤ 4294967295) ∧ (-9223372036854775808 ≤ fl ∧ fl ≤ 9223372036854775807) ∧ (-9223372036854775808 ≤ wi ∧ wi ≤ 9223372036854775807)) := Lib.hid ⟨ht.sq, ht.ak, ht.fl, ht.wi⟩
  have HC := Lib.hid hc
  have HD := Lib.hid hdat
  have HLEN := Lib.hid hlen
  have HFB := Lib.hid hFB
  have c7 := B0.cell (i := 7) rfl
  have hn63 : (no : Int) ≤ 9223372036854775807 := by omega
  have HO0 : Hid (Tcp.OptsRd W Ao no opts) := Lib.hid (ht.opts.below hbW)
  clear ht hc hdat hlen hFB
  go_enter Tryd.func33, Tryd.ntmps33
  go_upto_region 1 with (fail)
  rw [← hW]
  clear hW
  go_wp2_with fail
  clear c7
  go_loopg [5, 7, 11] no (fun g s5 _ s11 wx => ∃ (i : Nat) (os : List Tcp.Opt) (A5 : Option Addr) (c5 : Nat), i + g = no ∧ s11 = .int .i64 i ∧ s5 = .slice A5 i c5 ∧ wx.ownsRow W.heap.size 62 2 (.slice A5 i c5) i (optCells os) ∧ os.length = i ∧ Hid (∀ o ∈ os, o.own wx W.heap.size) ∧ Hid (os.map Tcp.Opt.con = ((opts.take i).map Tcp.Opt.con).map F) ∧ BlkV wx w.heap.size 29 [.int .i64 sp, .int .i64 dp, .int .u32 sq, .int .u32 ak, .int .i64 fl, .int .i64 wi, .int .i64 ur, .slice Ao no co, .slice Ab nb cb] ∧ BlkV wx (w.heap.size + 1) 29 [.int .i64 0, .int .i64 0, .int .u32 0, .int .u32 0, .int .i64 0, .int .i64 0, .int .i64 0, .slice none 0 0, .slice none 0 0] ∧ Below W.heap.size W wx)
  case atStart => exact ⟨0, [], none, 0, by omega, rfl, rfl, World.ownsRow_nil _ _ _ _, rfl, Lib.hid (fun o ho => by cases ho), Lib.hid (by simp), B0, B1, Below.refl _ _⟩
  case round =>
    obtain ⟨i, os, A5, c5, hig, rfl, rfl, hrow, hol, hown, hcon, B0x, B1x, hbx⟩ := hrel
    have HROW := Lib.hid hrow
    have HOL := Lib.hid hol
    clear hrow hol B0 B1
    cases gk with
    | zero =>
      have hin : i = no := by omega
      have hiz : ¬ (i : Int) < (no : Int) := by omega
      have c8 := B0x.cell (i := 8) rfl
      have HCL := Lib.hid (bytes_clone Ab nb cb body wr (HTB.out.1.below hbx) (by omega))
      have hsx := hbx.size
      have HIN := Lib.hid hin
      clear HC HD hin
      go_wp2_with fail
      refine HCL.out.mono ?_
      rintro e wb ⟨A8, c8', rfl, ownb, hbb⟩
      have B0b := B0x.below hbb
      have B1b := B1x.below hbb
      have R2 := own_below HROW.out hbb
      have OWN2 : Hid (∀ o ∈ os, o.own wb W.heap.size) := Lib.hid fun o hm => (hown.out o hm).below hbb
      have hb2 := bel_then hbx hbb
      have hsb := hbb.size
      clear c8 HCL B0x B1x HROW hown hbx
      go_upto_region 10 with (first | (refine wpList_stF 26 _ _ 7 (.slice A5 i c5) rfl (by with_reducible rfl) rfl (by rfl) (by rfl) B0b (by simp) (by kernel_rfl) rfl ?_; intro wc BC hO) | (refine wpList_stF 27 _ _ 8 (.slice A8 nb c8') rfl (by with_reducible rfl) rfl (by rfl) (by rfl) BC (by simp) (by kernel_rfl) rfl ?_; intro wd BD0 hP))
      have BD := BlkV.fit BD0 (m := [.int .i64 sp, .int .i64 dp, .int .u32 sq, .int .u32 ak, .int .i64 fl, .int .i64 wi, .int .i64 ur, .slice A5 i c5, .slice A8 nb c8']) rfl
      have B1d := (B1b.only hO (by omega)).only hP (by omega)
      have R4 := own_st (own_st R2 B0b hO (by decide)) BC hP (by decide)
      have OWN4 : Hid (∀ o ∈ os, o.own wd W.heap.size) := Lib.hid fun o hm => ((OWN2.out o hm).store B0b hO (by decide)).store BC hP (by decide)
      have ownd := own_st (own_st ownb B0b hO (by decide)) BC hP (by decide)
      have hb4 : Below w.heap.size w wd := hP.bel (Nat.le_refl _) (hO.bel (Nat.le_refl _) (bel_then hbW hb2))
      clear BC BD0 hO hP B0b B1b R2 OWN2 ownb hb2 hsb
      go_wp2_with (first | (refine wpList_ldB 29 _ _ (by with_reducible rfl) rfl (by rfl) BD Tryd.underlying29 rfl (tcp_size (by rfl)) ?_) | (refine wpList_stB 29 _ _ (by with_reducible rfl) rfl (by rfl) _ (by rfl) B1d (by rfl) (tcp_size (by rfl)) (by rfl) ?_; intro wM BM hM))
      obtain ⟨t0, t1, t2, t3, t4, t5, t6, t7, t8⟩ := cells9' BM
      have R5 := own_st R4 B1d hM (by decide)
      have OWN5 : Hid (∀ o ∈ os, o.own wM W.heap.size) := Lib.hid fun o hm => (OWN4.out o hm).store B1d hM (by decide)
      have own5 := own_st ownd B1d hM (by decide)
      have hl := HOL.out
      have hin := HIN.out
      subst hin
      have hfull : opts.take i = opts := List.take_of_length_le (by have := HO0.out.1; omega)
      subst hl
      exact bodyPost_ret (v := .agg #[.int .i64 sp, .int .i64 dp, .int .u32 sq, .int .u32 ak, .int .i64 fl, .int .i64 wi, .int .i64 ur, .slice A5 os.length c5, .slice A8 nb c8']) (by simp [results, Tryd.results33, go_sem, t0, t1, t2, t3, t4, t5, t6, t7, t8]) rfl ⟨hM.bel (by omega) hb4, ⟨sp, dp, sq, ak, fl, wi, ur, A5, os.length, c5, A8, nb, c8', os, body⟩, rfl, TOwn.weak (base := W.heap.size) ⟨R5, OWN5.out, rfl, own_weak own5 hsx, HTB.out.2, HTU.out.1, HTU.out.2.1, HTU.out.2.2.1, HTU.out.2.2.2⟩ (by omega), rfl, rfl, rfl, rfl, rfl, rfl, rfl, by rw [hcon.out, hfull], rfl⟩
    | succ g2 =>
      have hi : i < no := by omega
      have hiz : (i : Int) < (no : Int) := by omega
      have hOR := HO0.out.below hbx
      obtain ⟨o, ho⟩ : ∃ o, opts[i]? = some o := ⟨_, List.getElem?_eq_getElem (by rw [hOR.1]; omega)⟩
      have hmem := List.mem_of_getElem? ho
      have hok := hOR.2.1 o hmem
      have ho300 := HD.out o hmem
      obtain ⟨b, off, hAo, hbl, hcell⟩ := hOR.2.2 (by omega)
      obtain ⟨q0, q1⟩ := hcell i o ho
      have HG := Lib.hid ho
      have HOKH := Lib.hid hok
      obtain ⟨ok, oA, on, oc, od⟩ := o
      simp only at q0 q1 ho300
      clear hcell hOR ho hmem hok
      subst hAo
      have hsx := hbx.size
      have hB3 := @BlkV.new wr 62 [.int .i64 0, .slice none 0 0]
      go_upto_region 5 with (first | (refine wpList_stB 62 _ _ (by with_reducible rfl) rfl (by rfl) _ (by rfl) (by exact hB3) (by rfl) (opt_size (by rfl)) (by rfl) ?_; intro wa BA hO))
      have R1 := own_new HROW.out hO
      have hrb : Hid (∀ k, (Value.slice A5 i c5).ownBlock = some k → k < wr.heap.size) := Lib.hid fun k hk => (HROW.out.lt k hk).2
      have OWN1 : Hid (∀ o ∈ os, o.own wa W.heap.size) := Lib.hid fun o hm => ((hown.out o hm).below ((Below.refl _ _).alloc (Nat.le_refl _) _)).store hB3 hO (by decide)
      have B0a := (B0x.alloc (.cells #[.int .i64 0, .slice none 0 0] 62)).only hO (by omega)
      have B1a := (B1x.alloc (.cells #[.int .i64 0, .slice none 0 0] 62)).only hO (by omega)
      have hba := hO.bel hsx (bel_a hbx (.cells #[.int .i64 0, .slice none 0 0] 62))
      have hsa : wr.heap.size < wa.heap.size := by rw [hO.size]; simp
      have hra : Below wr.heap.size wr wa := hO.bel (Nat.le_refl _) ((Below.refl _ wr).alloc (Nat.le_refl _) (.cells #[.int .i64 0, .slice none 0 0] 62))
      have hRo : Hid (Rd wa 1 oA on (bs od)) := Lib.hid (HOKH.out.1.below hra)
      have hOKs : Hid (isB od ∧ -9223372036854775808 ≤ ok ∧ ok ≤ 9223372036854775807) := Lib.hid ⟨HOKH.out.2.1, HOKH.out.2.2.2.2.1, HOKH.out.2.2.2.2.2⟩
      have c1 := BA.cell (i := 1) rfl
      have HCL := Lib.hid (bytes_clone oA on oc od wa hRo.out (by omega))
      clear hB3 hO hown q0 q1 B0x B1x HROW HOKH hra hbx
      go_wp2_with fail
      refine HCL.out.mono ?_
      rintro e wb ⟨A', c', rfl, ownb, hbb⟩
      have BAb := BA.below hbb
      have R2 := own_below R1 hbb
      have B0b := B0a.below hbb
      have B1b := B1a.below hbb
      have hb2 := bel_then hba hbb
      have hsb := hbb.size
      clear BA c1 HCL R1 B0a B1a
      go_upto_region 6 with (first | (refine wpList_stF 27 _ _ 1 (.slice A' on c') rfl (by with_reducible rfl) rfl (by rfl) (by rfl) BAb (by simp) (by kernel_rfl) rfl ?_; intro wc BC0 hO))
      have BC := BlkV.fit BC0 (m := [.int .i64 ok, .slice A' on c']) rfl
      have hlen0 : od.length = on := by have := ownb.1; rw [bs_len] at this; omega
      have ownc := own_st ownb BAb hO (by decide)
      have R3 := own_nb R2 hO (fun k hk => by have := hrb.out k hk; omega)
      have OWN3 : Hid (∀ o ∈ os, o.own wc W.heap.size) := Lib.hid fun o hm => ((OWN1.out o hm).below hbb).store BAb hO (by decide)
      have B0c := B0b.only hO (by omega)
      have B1c := B1b.only hO (by omega)
      have hb3 := hO.bel hsx hb2
      have hsc : wb.heap.size = wc.heap.size := hO.size.symm
      have HSC := Lib.hid hsc
      have HCH := Lib.hid (HC.out wa.heap.size wc ok A' on c' od ownc hOKs.out.1 (by omega))
      clear BAb BC0 hO R2 B0b B1b hb2 hsc ownb
      go_upto_region 7 with (first | (refine wpList_ldB 62 _ _ (by with_reducible rfl) rfl (by rfl) BC Tryd.underlying62 rfl (opt_size (by rfl)) ?_) | (go_at_fn f; refine HCH.out.mono ?_; rintro e wd ⟨rfl, ownd, hgd⟩))
      have hoc := fun k hk => (ownc.lt k hk).1
      have BD := BC.grownN hgd (fun k hk => by have := hoc k hk; omega)
      have R4 := R3.kept hgd (own_apart2 R3 ownc (by decide))
      have OWN4 : Hid (∀ o ∈ os, o.own wd W.heap.size) := Lib.hid fun o hm => (OWN3.out o hm).turn hgd (by
        cases hv : (Value.slice o.A o.n o.c).ownBlock with
        | none => exact .inl rfl
        | some k =>
          refine .inr (fun he => ?_)
          have h1 := ((OWN1.out o hm).row.lt k hv).2
          have h2 := hoc k he.symm
          omega)
      have NEW : Hid (Tcp.Opt.own ⟨ok, A', on, c', (F (ok, od)).2⟩ wd W.heap.size) := Lib.hid ⟨own_weak ownd (by omega), HFB.out _ hOKs.out.1, (own_cap ownd).1, (own_cap ownd).2, hOKs.out.2.1, hOKs.out.2.2⟩
      have B0d := B0c.grownN hgd (fun k hk => by have := hoc k hk; omega)
      have B1d := B1c.grownN hgd (fun k hk => by have := hoc k hk; omega)
      have hb4 := below_by hb3 hgd (fun k hk => by have := hoc k hk; omega) (by have := HSC.out; omega)
      have hb4s := hb4.size
      have R4H := Lib.hid R4
      clear BC R3 OWN3 OWN1 B0c B1c hb3 ownc ownd hgd hoc HCH R4
      go_wp2_with (first | (refine wpList_ldB 62 _ _ (by with_reducible rfl) rfl (by rfl) BD Tryd.underlying62 rfl (opt_size (by rfl)) ?_) | (at_builtin; refine wpList_app _ rfl (.tmp 22) (.tmp 24) 26 rfl W (by exact hb4.alloc hb4s _) 62 (.agg #[.int .i64 0, .slice none 0 0]) 2 32 Tryd.underlying26 opt_info rfl (by decide) (.slice A5 i c5) i (optCells os) rfl (by exact R4H.out.alloc _) (some ⟨_, 0, none⟩) 1 1 [.int .i64 ok, .slice A' on c'] rfl (by exact rd_pair _ _ _ _) (one_opt _ _ _ _) (by unfold maxLen; omega) (by omega) ?_; intro A6 c6 we R6 hbe hge hat))
      have B0e := (B0d.alloc (.cells #[.int .i64 ok, .slice A' on c'] 62)).grownN hge (fun k hk => by have := (R4H.out.lt k hk).1; omega)
      have B1e := (B1d.alloc (.cells #[.int .i64 ok, .slice A' on c'] 62)).grownN hge (fun k hk => by have := (R4H.out.lt k hk).1; omega)
      have hal := (Below.refl wd.heap.size wd).alloc (Nat.le_refl _) (.cells #[.int .i64 ok, .slice A' on c'] 62)
      have OWN5 : Hid (∀ o ∈ os ++ [(⟨ok, A', on, c', (F (ok, od)).2⟩ : Tcp.Opt)], o.own we W.heap.size) := Lib.hid fun o hm => by
        rcases List.mem_append.1 hm with h | h
        · exact ((OWN4.out o h).below hal).app (R4H.out.alloc _) hge
        · rw [List.mem_singleton] at h
          subst h
          exact (NEW.out.below hal).app (R4H.out.alloc _) hge
      have CON : Hid ((os ++ [(⟨ok, A', on, c', (F (ok, od)).2⟩ : Tcp.Opt)]).map Tcp.Opt.con = ((opts.take (i + 1)).map Tcp.Opt.con).map F) := Lib.hid (by
        rw [List.take_add_one, HG.out, List.map_append, List.map_append, List.map_append, hcon.out]
        simp only [List.map_cons, List.map_nil, Tcp.Opt.con]
        congr 2
        exact Prod.ext (HLEN.out (ok, od)).2.symm rfl)
      have R7 : we.ownsRow W.heap.size 62 2 (.slice A6 (i + 1) c6) (i + 1) (optCells (os ++ [(⟨ok, A', on, c', (F (ok, od)).2⟩ : Tcp.Opt)])) := by rw [optCells_snoc]; exact R6
      have LEN := HOL.out
      clear BD OWN4 NEW B0d B1d hb4 R4H R6 hge hat hal hcon HOL
      go_roundg g2
      case measure => omega
      case rel => exact ⟨i + 1, os ++ [(⟨ok, A', on, c', (F (ok, od)).2⟩ : Tcp.Opt)], A6, c6, by omega, by go_num, rfl, R7, by simp [LEN], OWN5, CON, B0e, B1e, hbe⟩
end Go.Proofs.YtpidpbjbgjkaaaaDoor
namespace Go.Proofs.YtpidpbjbgjkaaaaDoor
open Go.RowKit
set_option maxRecDepth 8000
set_option linter.unusedVariables false
set_option linter.unusedSimpArgs false
namespace Prox
/-- what a segment says -/
structure C where
  sp : Int
  dp : Int
  sq : Int
  ak : Int
  fl : Int
  wi : Int
  ur : Int
  opts : List O
  body : List Int
def C.small (c : C) : Prop := c.opts.length ≤ 60 ∧ (∀ o ∈ c.opts, o.2.length ≤ 300) ∧ c.body.length ≤ 3000
def hasAck (fl : Int) : Bool := Go.bits .and .i64 fl 16 != 0
def toS (s st : Int) (c : C) : C := { c with ak := if hasAck c.fl then (c.ak + s) % 4294967296 else c.ak, opts := c.opts.map (there s st) }
def toC (s st : Int) (c : C) : C := { c with sq := (c.sq - s) % 4294967296, opts := c.opts.map (back ((-st) % 4294967296)) }
theorem small_map {l : List O} {F : O → O} (h : ∀ o ∈ l, o.2.length ≤ 300) (hF : ∀ o, (F o).2.length = o.2.length) : ∀ o ∈ l.map F, o.2.length ≤ 300 := by
  intro o ho
  rw [List.mem_map] at ho
  obtain ⟨x, hx, rfl⟩ := ho
  rw [hF]
  exact h x hx
theorem toS_small {c : C} (h : c.small) (s st : Int) : (toS s st c).small := ⟨by simpa [toS] using h.1, small_map h.2.1 (fun o => (there_len s st o).1), h.2.2⟩
theorem toC_small {c : C} (h : c.small) (s st : Int) : (toC s st c).small := ⟨by simpa [toC] using h.1, small_map h.2.1 (fun o => (back_len _ o).1), h.2.2⟩
end Prox
def Tcp.T.con (t : Tcp.T) : Prox.C := ⟨t.sp, t.dp, t.sq, t.ak, t.fl, t.wi, t.ur, t.opts.map Tcp.Opt.con, t.body⟩
theorem small_of {t : Tcp.T} {w : World} (ht : t.ok w) (h : t.con.small) : t.no ≤ 60 ∧ (∀ o ∈ t.opts, o.n ≤ 300) ∧ t.nb ≤ 3000 := by
  refine ⟨?_, fun o ho => ?_, ?_⟩
  · have := h.1
    rw [Tcp.T.con, List.length_map, ht.opts.1] at this
    exact this
  · have h1 := h.2.1 o.con (List.mem_map_of_mem ho)
    have h2 := (ht.opts.2.1 o ho).1.1
    rw [bs_len] at h2
    simp only [Tcp.Opt.con] at h1
    omega
  · have h1 := h.2.2
    have h2 := ht.body.1
    rw [bs_len] at h2
    simp only [Tcp.T.con] at h1
    omega
theorem of_small {t : Tcp.T} {w : World} (ht : t.ok w) (h1 : t.no ≤ 60) (h2 : ∀ o ∈ t.opts, o.n ≤ 300) (h3 : t.nb ≤ 3000) : t.con.small := by
  refine ⟨?_, fun o ho => ?_, ?_⟩
  · rw [Tcp.T.con, List.length_map, ht.opts.1]
    exact h1
  · simp only [Tcp.T.con] at ho
    rw [List.mem_map] at ho
    obtain ⟨x, hx, rfl⟩ := ho
    have h4 := (ht.opts.2.1 x hx).1.1
    rw [bs_len] at h4
    have := h2 x hx
    simp only [Tcp.Opt.con]
    omega
  · have h4 := ht.body.1
    rw [bs_len] at h4
    simp only [Tcp.T.con]
    omega
def ShiftR (c : Prox.C) (w : World) (e : Ending) (w' : World) : Prop :=
  Below w.heap.size w w' ∧ ∃ u : Tcp.T, e = .returned (.agg #[.int .i64 u.sp, .int .i64 u.dp, .int .u32 u.sq, .int .u32 u.ak, .int .i64 u.fl, .int .i64 u.wi, .int .i64 u.ur, .slice u.Ao u.no u.co, .slice u.Ab u.nb u.cb]) ∧ TOwn u w' w.heap.size ∧ u.con = c
theorem change_there (sq st : Int) (h0 : 0 ≤ sq) (h1 : sq ≤ 4294967295) (h2 : 0 ≤ st) (h3 : st ≤ 4294967295) : Change 34 (.agg #[.int .u32 sq, .int .u32 st]) (Prox.there sq st) :=
  fun base w k A n c l ho hB hn => pthere_spec k sq st A n c l base w ho hB h0 h1 h2 h3 hn
theorem change_back (sq st : Int) (h2 : 0 ≤ st) (h3 : st ≤ 4294967295) : Change 36 (.agg #[.int .u32 sq, .int .u32 st]) (Prox.back ((-st) % 4294967296)) :=
  fun base w k A n c l ho hB hn => pback_spec k sq st A n c l base w ho hB h2 h3
theorem shift_size {l : List Value} (h : l.length = 2) : (Tryd.prog.info? 31).map (·.size) = some l.length := by
  rw [h]
  kernel_rfl
theorem ok_ak {t : Tcp.T} {w : World} (h : t.ok w) {a : Int} (h0 : 0 ≤ a ∧ a ≤ 4294967295) : ({t with ak := a} : Tcp.T).ok w := ⟨h.sq, h0, h.fl, h.wi, h.opts, h.noc, h.coc, h.body, h.isb, h.nbc, h.cbc⟩
theorem ok_sq {t : Tcp.T} {w : World} (h : t.ok w) {a : Int} (h0 : 0 ≤ a ∧ a ≤ 4294967295) : ({t with sq := a} : Tcp.T).ok w := ⟨h0, h.ak, h.fl, h.wi, h.opts, h.noc, h.coc, h.body, h.isb, h.nbc, h.cbc⟩
set_option maxHeartbeats 4000000 in
theorem ptos_spec (t : Tcp.T) (s st : Int) (w : World) (ht : t.ok w) (hsm : t.con.small) (h0 : 0 ≤ s) (h1 : s ≤ 4294967295) (h2 : 0 ≤ st) (h3 : st ≤ 4294967295) :
    Calls Tryd.prog 17 #[.agg #[.int .i64 t.sp, .int .i64 t.dp, .int .u32 t.sq, .int .u32 t.ak, .int .i64 t.fl, .int .i64 t.wi, .int .i64 t.ur, .slice t.Ao t.no t.co, .slice t.Ab t.nb t.cb], .agg #[.int .u32 s, .int .u32 st]] w (ShiftR (Prox.toS s st t.con) w) := by
  obtain ⟨W, hW⟩ : ∃ W, W = ((w.alloc (.cells #[.int .i64 t.sp, .int .i64 t.dp, .int .u32 t.sq, .int .u32 t.ak, .int .i64 t.fl, .int .i64 t.wi, .int .i64 t.ur, .slice t.Ao t.no t.co, .slice t.Ab t.nb t.cb] 29)).alloc (.cells #[.int .u32 s, .int .u32 st] 31)).alloc (.cells #[.int .i64 0, .int .i64 0, .int .u32 0, .int .u32 0, .int .i64 0, .int .i64 0, .int .i64 0, .slice none 0 0, .slice none 0 0] 29) := ⟨_, rfl⟩
  have hbW : Below w.heap.size w W := (by rw [hW]; exact (((Below.refl _ _).alloc (Nat.le_refl _) _).alloc (by simp) _).alloc (by simp; omega) _)
  have hWs : w.heap.size + 2 < W.heap.size := (by rw [hW]; simp)
  have B0 : BlkV W w.heap.size 29 [.int .i64 t.sp, .int .i64 t.dp, .int .u32 t.sq, .int .u32 t.ak, .int .i64 t.fl, .int .i64 t.wi, .int .i64 t.ur, .slice t.Ao t.no t.co, .slice t.Ab t.nb t.cb] := (by rw [hW]; exact ((BlkV.new w _ _).alloc _).alloc _)
  have B1 : BlkV W (w.heap.size + 1) 31 [.int .u32 s, .int .u32 st] := (by rw [hW]; exact (BlkV.new_at (w.alloc (.cells #[.int .i64 t.sp, .int .i64 t.dp, .int .u32 t.sq, .int .u32 t.ak, .int .i64 t.fl, .int .i64 t.wi, .int .i64 t.ur, .slice t.Ao t.no t.co, .slice t.Ab t.nb t.cb] 29)) _ _ (by simp)).alloc _)
  have B2 : BlkV W (w.heap.size + 1 + 1) 29 [.int .i64 0, .int .i64 0, .int .u32 0, .int .u32 0, .int .i64 0, .int .i64 0, .int .i64 0, .slice none 0 0, .slice none 0 0] := (by rw [hW]; exact (BlkV.new_at ((w.alloc (.cells #[.int .i64 t.sp, .int .i64 t.dp, .int .u32 t.sq, .int .u32 t.ak, .int .i64 t.fl, .int .i64 t.wi, .int .i64 t.ur, .slice t.Ao t.no t.co, .slice t.Ab t.nb t.cb] 29)).alloc (.cells #[.int .u32 s, .int .u32 st] 31)) _ _ (by simp)))
  obtain ⟨ha, hb, hc⟩ := small_of ht hsm
  obtain ⟨y, hy⟩ : ∃ y, (t.ak + s) % 4294967296 = y := ⟨_, rfl⟩
  have hyb : 0 ≤ y ∧ y ≤ 4294967295 := by omega
  obtain ⟨q, hq⟩ : ∃ q, (Go.bits .and .i64 t.fl 16 != 0) = q := ⟨_, rfl⟩
  have HTW := Lib.hid (ht.below hbW)
  have c4 := B0.cell (i := 4) rfl
  have c3 := B0.cell (i := 3) rfl
  have d0 := B1.cell (i := 0) rfl
  have EG : ∀ args w, (callFunc 34 args).run Tryd.prog w = .ok (.enter 34 args) w := enters_of Tryd.func34 (by kernel_rfl) rfl
  have HQ : Hid (Prox.toS s st t.con = ⟨t.sp, t.dp, t.sq, if q = true then y else t.ak, t.fl, t.wi, t.ur, (t.opts.map Tcp.Opt.con).map (Prox.there s st), t.body⟩) := Lib.hid (by
    subst hq
    subst hy
    rfl)
  have HOP : Hid (∀ a (w' : World), (0 ≤ a ∧ a ≤ 4294967295) → Below W.heap.size W w' ∨ OnlyB w.heap.size W w' → Calls Tryd.prog 33 #[.agg #[.int .i64 t.sp, .int .i64 t.dp, .int .u32 t.sq, .int .u32 a, .int .i64 t.fl, .int .i64 t.wi, .int .i64 t.ur, .slice t.Ao t.no t.co, .slice t.Ab t.nb t.cb], .func (.func 34) #[.agg #[.int .u32 s, .int .u32 st]] #[]] w' (OptsR (Prox.there s st) {t with ak := a} w')) := Lib.hid fun a w' hab hw =>
    poptions_spec 34 _ (Prox.there s st) t.sp t.dp t.sq a t.fl t.wi t.ur t.Ao t.no t.co t.Ab t.nb t.cb t.opts t.body w' (ok_ak (by
      rcases hw with h | h
      · exact HTW.out.below h
      · exact ht.below (h.bel (Nat.le_refl _) hbW)) hab) ha hb hc EG (change_there s st h0 h1 h2 h3) (Prox.there_len s st) (fun o h => Prox.there_isB s st o h)
  have HAK := Lib.hid ht.ak
  clear EG ht hsm
  cases q
  · go_enter Tryd.func17, Tryd.ntmps17
    go_upto_region 1 with (fail)
    rw [← hW]
    clear hW
    go_wp2_with (first | (refine wpList_ldB 29 _ _ (by with_reducible rfl) rfl (by rfl) B0 Tryd.underlying29 rfl (tcp_size (by rfl)) ?_) | (refine wpList_ldB 31 _ _ (by with_reducible rfl) rfl (by rfl) B1 Tryd.underlying31 rfl (shift_size (by rfl)) ?_))
    refine (HOP.out t.ak W HAK.out (.inl (Below.refl _ _))).mono ?_
    rintro e w1 ⟨hb1, u, rfl, hu, k1, k2, k3, k4, k5, k6, k7, k8, k9⟩
    have B2b := B2.below hb1
    have hs1 := hb1.size
    have HU := Lib.hid hu
    clear B0 B1 B2 c4 c3 d0 HOP HTW hu
    simp only [Tcp.T.cells]
    go_wp2_with (first | (refine wpList_stB 29 _ _ (by with_reducible rfl) rfl (by rfl) _ (by rfl) B2b (by rfl) (tcp_size (by rfl)) (by rfl) ?_; intro wM BM hM))
    obtain ⟨t0, t1, t2, t3, t4, t5, t6, t7, t8⟩ := cells9' BM
    have huM := Lib.hid ((HU.out.store B2b hM (by decide) (by decide)).weak (show w.heap.size ≤ _ by omega))
    exact bodyPost_ret (v := .agg #[.int .i64 u.sp, .int .i64 u.dp, .int .u32 u.sq, .int .u32 u.ak, .int .i64 u.fl, .int .i64 u.wi, .int .i64 u.ur, .slice u.Ao u.no u.co, .slice u.Ab u.nb u.cb]) (by simp [results, Tryd.results17, go_sem, t0, t1, t2, t3, t4, t5, t6, t7, t8]) rfl ⟨hM.bel (by omega) (bel_then hbW hb1), u, rfl, huM.out, by rw [HQ.out]; simp only [Tcp.T.con, k1, k2, k3, k4, k5, k6, k7, k8, k9]; rfl⟩
  · go_enter Tryd.func17, Tryd.ntmps17
    go_upto_region 1 with (fail)
    rw [← hW]
    clear hW
    have f3 := B0.unfrozen 3
    go_upto_region 3 with (fail)
    obtain ⟨wa, hwa⟩ : ∃ wa, wa = W.setCell ⟨w.heap.size, 3, none⟩ (.int .u32 y) := ⟨_, rfl⟩
    rw [← hwa]
    have BA0 := B0.put 3 (.int .u32 y)
    have hO := OnlyB.set W w.heap.size 3 (.int .u32 y)
    rw [← hwa] at BA0 hO
    clear hwa f3
    have BA := BlkV.fit BA0 (m := [.int .i64 t.sp, .int .i64 t.dp, .int .u32 t.sq, .int .u32 y, .int .i64 t.fl, .int .i64 t.wi, .int .i64 t.ur, .slice t.Ao t.no t.co, .slice t.Ab t.nb t.cb]) rfl
    have B1a := B1.only hO (by omega)
    have B2a := B2.only hO (by omega)
    have hba := hO.bel (Nat.le_refl _) hbW
    have hsa := hO.size
    have HSA := Lib.hid hsa
    have HOQ := Lib.hid (HOP.out y wa hyb (.inr hO))
    clear B0 B1 B2 c4 c3 d0 HOP hO BA0 hsa
    go_wp2_with (first | (refine wpList_ldB 29 _ _ (by with_reducible rfl) rfl (by rfl) BA Tryd.underlying29 rfl (tcp_size (by rfl)) ?_) | (refine wpList_ldB 31 _ _ (by with_reducible rfl) rfl (by rfl) B1a Tryd.underlying31 rfl (shift_size (by rfl)) ?_))
    refine HOQ.out.mono ?_
    rintro e w1 ⟨hb1, u, rfl, hu, k1, k2, k3, k4, k5, k6, k7, k8, k9⟩
    have B2b := B2a.below hb1
    have hs1 := hb1.size
    have hs1' : W.heap.size ≤ w1.heap.size := by have := HSA.out; omega
    have HU := Lib.hid hu
    clear BA B1a B2a HOQ HTW hu
    simp only [Tcp.T.cells]
    go_wp2_with (first | (refine wpList_stB 29 _ _ (by with_reducible rfl) rfl (by rfl) _ (by rfl) B2b (by rfl) (tcp_size (by rfl)) (by rfl) ?_; intro wM BM hM))
    obtain ⟨t0, t1, t2, t3, t4, t5, t6, t7, t8⟩ := cells9' BM
    have huM := Lib.hid ((HU.out.store B2b hM (by decide) (by decide)).weak (show w.heap.size ≤ _ by have := HSA.out; omega))
    exact bodyPost_ret (v := .agg #[.int .i64 u.sp, .int .i64 u.dp, .int .u32 u.sq, .int .u32 u.ak, .int .i64 u.fl, .int .i64 u.wi, .int .i64 u.ur, .slice u.Ao u.no u.co, .slice u.Ab u.nb u.cb]) (by simp [results, Tryd.results17, go_sem, t0, t1, t2, t3, t4, t5, t6, t7, t8]) rfl ⟨hM.bel (by omega) (bel_then hba hb1), u, rfl, huM.out, by rw [HQ.out]; simp only [Tcp.T.con, k1, k2, k3, k4, k5, k6, k7, k8, k9]; rfl⟩
set_option maxHeartbeats 4000000 in
theorem ptoc_spec (t : Tcp.T) (s st : Int) (w : World) (ht : t.ok w) (hsm : t.con.small) (h0 : 0 ≤ s) (h1 : s ≤ 4294967295) (h2 : 0 ≤ st) (h3 : st ≤ 4294967295) :
    Calls Tryd.prog 19 #[.agg #[.int .i64 t.sp, .int .i64 t.dp, .int .u32 t.sq, .int .u32 t.ak, .int .i64 t.fl, .int .i64 t.wi, .int .i64 t.ur, .slice t.Ao t.no t.co, .slice t.Ab t.nb t.cb], .agg #[.int .u32 s, .int .u32 st]] w (ShiftR (Prox.toC s st t.con) w) := by
  obtain ⟨W, hW⟩ : ∃ W, W = ((w.alloc (.cells #[.int .i64 t.sp, .int .i64 t.dp, .int .u32 t.sq, .int .u32 t.ak, .int .i64 t.fl, .int .i64 t.wi, .int .i64 t.ur, .slice t.Ao t.no t.co, .slice t.Ab t.nb t.cb] 29)).alloc (.cells #[.int .u32 s, .int .u32 st] 31)).alloc (.cells #[.int .i64 0, .int .i64 0, .int .u32 0, .int .u32 0, .int .i64 0, .int .i64 0, .int .i64 0, .slice none 0 0, .slice none 0 0] 29) := ⟨_, rfl⟩
  have hbW : Below w.heap.size w W := (by rw [hW]; exact (((Below.refl _ _).alloc (Nat.le_refl _) _).alloc (by simp) _).alloc (by simp; omega) _)
  have hWs : w.heap.size + 2 < W.heap.size := (by rw [hW]; simp)
  have B0 : BlkV W w.heap.size 29 [.int .i64 t.sp, .int .i64 t.dp, .int .u32 t.sq, .int .u32 t.ak, .int .i64 t.fl, .int .i64 t.wi, .int .i64 t.ur, .slice t.Ao t.no t.co, .slice t.Ab t.nb t.cb] := (by rw [hW]; exact ((BlkV.new w _ _).alloc _).alloc _)
  have B1 : BlkV W (w.heap.size + 1) 31 [.int .u32 s, .int .u32 st] := (by rw [hW]; exact (BlkV.new_at (w.alloc (.cells #[.int .i64 t.sp, .int .i64 t.dp, .int .u32 t.sq, .int .u32 t.ak, .int .i64 t.fl, .int .i64 t.wi, .int .i64 t.ur, .slice t.Ao t.no t.co, .slice t.Ab t.nb t.cb] 29)) _ _ (by simp)).alloc _)
  have B2 : BlkV W (w.heap.size + 1 + 1) 29 [.int .i64 0, .int .i64 0, .int .u32 0, .int .u32 0, .int .i64 0, .int .i64 0, .int .i64 0, .slice none 0 0, .slice none 0 0] := (by rw [hW]; exact (BlkV.new_at ((w.alloc (.cells #[.int .i64 t.sp, .int .i64 t.dp, .int .u32 t.sq, .int .u32 t.ak, .int .i64 t.fl, .int .i64 t.wi, .int .i64 t.ur, .slice t.Ao t.no t.co, .slice t.Ab t.nb t.cb] 29)).alloc (.cells #[.int .u32 s, .int .u32 st] 31)) _ _ (by simp)))
  obtain ⟨ha, hb, hc⟩ := small_of ht hsm
  obtain ⟨y, hy⟩ : ∃ y, (t.sq - s) % 4294967296 = y := ⟨_, rfl⟩
  have hyb : 0 ≤ y ∧ y ≤ 4294967295 := by omega
  have c2 := B0.cell (i := 2) rfl
  have d0 := B1.cell (i := 0) rfl
  have EG : ∀ args w, (callFunc 36 args).run Tryd.prog w = .ok (.enter 36 args) w := enters_of Tryd.func36 (by kernel_rfl) rfl
  have HQ : Hid (Prox.toC s st t.con = ⟨t.sp, t.dp, y, t.ak, t.fl, t.wi, t.ur, (t.opts.map Tcp.Opt.con).map (Prox.back ((-st) % 4294967296)), t.body⟩) := Lib.hid (by
    subst hy
    rfl)
  have HOP : Hid (∀ (w' : World), OnlyB w.heap.size W w' → Calls Tryd.prog 33 #[.agg #[.int .i64 t.sp, .int .i64 t.dp, .int .u32 y, .int .u32 t.ak, .int .i64 t.fl, .int .i64 t.wi, .int .i64 t.ur, .slice t.Ao t.no t.co, .slice t.Ab t.nb t.cb], .func (.func 36) #[.agg #[.int .u32 s, .int .u32 st]] #[]] w' (OptsR (Prox.back ((-st) % 4294967296)) {t with sq := y} w')) := Lib.hid fun w' h =>
    poptions_spec 36 _ (Prox.back ((-st) % 4294967296)) t.sp t.dp y t.ak t.fl t.wi t.ur t.Ao t.no t.co t.Ab t.nb t.cb t.opts t.body w' (ok_sq (ht.below (h.bel (Nat.le_refl _) hbW)) hyb) ha hb hc EG (change_back s st h2 h3) (Prox.back_len _) (fun o h => Prox.back_isB _ o h)
  clear EG ht hsm
  go_enter Tryd.func19, Tryd.ntmps19
  go_upto_region 1 with (fail)
  rw [← hW]
  clear hW
  have f2 := B0.unfrozen 2
  go_upto_region 2 with (fail)
  obtain ⟨wa, hwa⟩ : ∃ wa, wa = W.setCell ⟨w.heap.size, 2, none⟩ (.int .u32 y) := ⟨_, rfl⟩
  rw [← hwa]
  have BA0 := B0.put 2 (.int .u32 y)
  have hO := OnlyB.set W w.heap.size 2 (.int .u32 y)
  rw [← hwa] at BA0 hO
  clear hwa f2
  have BA := BlkV.fit BA0 (m := [.int .i64 t.sp, .int .i64 t.dp, .int .u32 y, .int .u32 t.ak, .int .i64 t.fl, .int .i64 t.wi, .int .i64 t.ur, .slice t.Ao t.no t.co, .slice t.Ab t.nb t.cb]) rfl
  have B1a := B1.only hO (by omega)
  have B2a := B2.only hO (by omega)
  have hba := hO.bel (Nat.le_refl _) hbW
  have hsa := hO.size
  have HSA := Lib.hid hsa
  have HOQ := Lib.hid (HOP.out wa hO)
  clear B0 B1 B2 c2 d0 HOP hO BA0 hsa
  go_wp2_with (first | (refine wpList_ldB 29 _ _ (by with_reducible rfl) rfl (by rfl) BA Tryd.underlying29 rfl (tcp_size (by rfl)) ?_) | (refine wpList_ldB 31 _ _ (by with_reducible rfl) rfl (by rfl) B1a Tryd.underlying31 rfl (shift_size (by rfl)) ?_))
  refine HOQ.out.mono ?_
  rintro e w1 ⟨hb1, u, rfl, hu, k1, k2, k3, k4, k5, k6, k7, k8, k9⟩
  have B2b := B2a.below hb1
  have hs1 := hb1.size
  have hs1' : W.heap.size ≤ w1.heap.size := by have := HSA.out; omega
  have HU := Lib.hid hu
  clear BA B1a B2a HOQ hu
  simp only [Tcp.T.cells]
  go_wp2_with (first | (refine wpList_stB 29 _ _ (by with_reducible rfl) rfl (by rfl) _ (by rfl) B2b (by rfl) (tcp_size (by rfl)) (by rfl) ?_; intro wM BM hM))
  obtain ⟨t0, t1, t2, t3, t4, t5, t6, t7, t8⟩ := cells9' BM
  have huM := Lib.hid ((HU.out.store B2b hM (by decide) (by decide)).weak (show w.heap.size ≤ _ by have := HSA.out; omega))
  exact bodyPost_ret (v := .agg #[.int .i64 u.sp, .int .i64 u.dp, .int .u32 u.sq, .int .u32 u.ak, .int .i64 u.fl, .int .i64 u.wi, .int .i64 u.ur, .slice u.Ao u.no u.co, .slice u.Ab u.nb u.cb]) (by simp [results, Tryd.results19, go_sem, t0, t1, t2, t3, t4, t5, t6, t7, t8]) rfl ⟨hM.bel (by omega) (bel_then hba hb1), u, rfl, huM.out, by rw [HQ.out]; simp only [Tcp.T.con, k1, k2, k3, k4, k5, k6, k7, k8, k9]⟩
end Go.Proofs.YtpidpbjbgjkaaaaDoor
namespace Go.Proofs.YtpidpbjbgjkaaaaDoor
open Go.RowKit
set_option linter.unusedVariables false
end Go.Proofs.YtpidpbjbgjkaaaaDoor
namespace Go.Proofs.YtpidpbjbgjkaaaaDoor
open Go.RowKit
set_option maxRecDepth 8000
set_option linter.unusedVariables false
set_option linter.unusedSimpArgs false
end Go.Proofs.YtpidpbjbgjkaaaaDoor
namespace Go.Proofs.YtpidpbjbgjkaaaaDoor
open Go.RowKit
set_option maxRecDepth 8000
set_option linter.unusedVariables false
set_option linter.unusedSimpArgs false
def PShortR (t : Tcp.T) (w : World) (e : Ending) (w' : World) : Prop := ∃ b : Bool, e = .returned (.bool b) ∧ (b = true → t.con.small) ∧ Below w.heap.size w w'
theorem pshortR_no {t : Tcp.T} {w w' : World} (hb : Below w.heap.size w w') : PShortR t w (.returned (.bool false)) w' := ⟨false, rfl, (fun h => by cases h), hb⟩
theorem pshortR_yes {t : Tcp.T} {w w' : World} (h : t.con.small) (hb : Below w.heap.size w w') : PShortR t w (.returned (.bool true)) w' := ⟨true, rfl, fun _ => h, hb⟩
set_option maxHeartbeats 2000000 in
theorem pshort_spec (t : Tcp.T) (w : World) (ht : t.ok w) : Calls Tryd.prog 7 #[.agg #[.int .i64 t.sp, .int .i64 t.dp, .int .u32 t.sq, .int .u32 t.ak, .int .i64 t.fl, .int .i64 t.wi, .int .i64 t.ur, .slice t.Ao t.no t.co, .slice t.Ab t.nb t.cb]] w (PShortR t w) := by
  obtain ⟨W, hW⟩ : ∃ W, W = w.alloc (.cells #[.int .i64 t.sp, .int .i64 t.dp, .int .u32 t.sq, .int .u32 t.ak, .int .i64 t.fl, .int .i64 t.wi, .int .i64 t.ur, .slice t.Ao t.no t.co, .slice t.Ab t.nb t.cb] 29) := ⟨_, rfl⟩
  have hbW : Below w.heap.size w W := by rw [hW]; exact (Below.refl _ _).alloc (Nat.le_refl _) _
  have B0 : BlkV W w.heap.size 29 [.int .i64 t.sp, .int .i64 t.dp, .int .u32 t.sq, .int .u32 t.ak, .int .i64 t.fl, .int .i64 t.wi, .int .i64 t.ur, .slice t.Ao t.no t.co, .slice t.Ab t.nb t.cb] := by rw [hW]; exact BlkV.new w _ _
  have hO := ht.opts.below hbW
  have HSM : Hid (t.no ≤ 60 → t.nb ≤ 3000 → (∀ j o, j < t.no → t.opts[j]? = some o → o.n ≤ 300) → t.con.small) := Lib.hid fun h1 h2 h3 => of_small ht h1 (fun o ho => by
    obtain ⟨j, hj⟩ := List.getElem?_of_mem ho
    exact h3 j o (by have := (List.getElem?_eq_some_iff.1 hj).1; have := ht.opts.1; omega) hj) h2
  have hco := ht.coc
  have hnc := ht.noc
  have hbc := ht.nbc
  have hcb := ht.cbc
  have c7 := B0.cell (i := 7) rfl
  have c8 := B0.cell (i := 8) rfl
  clear B0 ht
  by_cases h1 : 60 < t.no
  · have z1 : (60 : Int) < (t.no : Int) := by omega
    go_enter Tryd.func7, Tryd.ntmps7
    go_upto_region 1 with (fail)
    rw [← hW]
    clear hW
    go_wp2_with fail
    go_ret
    exact pshortR_no hbW
  have z1 : ¬ (60 : Int) < (t.no : Int) := by omega
  by_cases h2 : 3000 < t.nb
  · have z2 : (3000 : Int) < (t.nb : Int) := by omega
    go_enter Tryd.func7, Tryd.ntmps7
    go_upto_region 1 with (fail)
    rw [← hW]
    clear hW
    go_wp2_with fail
    go_ret
    exact pshortR_no hbW
  have z2 : ¬ (3000 : Int) < (t.nb : Int) := by omega
  have HO := Lib.hid hO
  clear hO
  go_enter Tryd.func7, Tryd.ntmps7
  go_upto_region 1 with (fail)
  rw [← hW]
  clear hW
  go_wp2_with fail
  go_loopg [3] t.no (fun g s3 wx => ∃ k : Nat, k + g = t.no ∧ s3 = .int .i64 k ∧ wx = W ∧ Hid (∀ j o, j < k → t.opts[j]? = some o → o.n ≤ 300))
  case atStart => exact ⟨0, by omega, rfl, rfl, Lib.hid fun j o hj => absurd hj (Nat.not_lt_zero _)⟩
  case round =>
    obtain ⟨k, hkg, rfl, rfl, hall⟩ := hrel
    cases gk with
    | zero =>
      have hk : k = t.no := by omega
      have hkz : ¬ (k : Int) < (t.no : Int) := by omega
      have HS := Lib.hid (HSM.out (by omega) (by omega) (fun j o hj => hall.out j o (by omega)))
      clear hk
      go_wp2_with fail
      go_ret
      exact pshortR_yes HS.out hbW
    | succ g2 =>
      have hk : k < t.no := by omega
      have hkz : (k : Int) < (t.no : Int) := by omega
      obtain ⟨o, ho⟩ : ∃ o, t.opts[k]? = some o := ⟨_, List.getElem?_eq_getElem (by rw [HO.out.1]; omega)⟩
      obtain ⟨b, off, hA, hl, hcell⟩ := HO.out.2.2 (by omega)
      obtain ⟨q0, q1⟩ := hcell k o ho
      have HOO := Lib.hid ho
      rw [hA] at c7
      clear hcell ho q0 hA
      by_cases h3 : 300 < o.n
      · have z3 : (300 : Int) < (o.n : Int) := by omega
        go_wp2_with fail
        go_ret
        exact pshortR_no hbW
      · have z3 : ¬ (300 : Int) < (o.n : Int) := by omega
        have HA : Hid (∀ j o, j < k + 1 → t.opts[j]? = some o → o.n ≤ 300) := Lib.hid fun j o' hj ho' => by
          rcases (show j = k ∨ j < k by omega) with rfl | h
          · have := HOO.out
            rw [ho'] at this
            injection this with this
            rw [this]
            omega
          · exact hall.out j o' h ho'
        go_wp2_with fail
        go_roundg g2
        case measure => omega
        case rel => exact ⟨k + 1, by omega, by go_num, rfl, HA⟩
end Go.Proofs.YtpidpbjbgjkaaaaDoor
namespace Go.Proofs.YtpidpbjbgjkaaaaDoor
open Go.RowKit
set_option linter.unusedVariables false
theorem seq_ret {a b : Value} {w : World} (h : a = b) : Ending.returned a = .returned b ∧ w = w := ⟨by rw [h], rfl⟩
set_option maxHeartbeats 400000 in
theorem seq_step (a n : Int) (w : World) :
    Calls Tryd.prog 21 #[.int .u32 a, .int .i64 n] w fun e w' => e = .returned (.int .u32 (Seq.step a n)) ∧ w = w' := by
  go_enter Tryd.func21, Tryd.ntmps21
  go_wp2
  go_ret
  exact ⟨rfl, rfl⟩
end Go.Proofs.YtpidpbjbgjkaaaaDoor
