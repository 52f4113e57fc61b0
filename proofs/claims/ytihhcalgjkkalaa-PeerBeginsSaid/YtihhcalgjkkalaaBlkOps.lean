/- Whole structs loaded from and stored into blocks that are known whole: one fact a block, not one a cell. No program in sight. -/
import Derived.Test.YtihhcalgjkkalaaBlkV
import Derived.Deep.MidRow
import Derived.OrdersHeld
import Derived.Deep.RegionHeld
namespace Go.Proofs.Ytihhcalgjkkalaa
open Go.RowKit
set_option linter.unusedVariables false
theorem bel_a {w w' : World} (h : Below w.heap.size w w') (o : Obj) : Below w.heap.size w (w'.alloc o) := h.alloc h.size o
theorem bel_n {B : Nat} {w w' : World} (h : Below B w w') (k : Nat) : Below B w (w'.drewN k) := ⟨h.os, h.tape, h.output, h.size, h.block⟩
theorem bel_d {B : Nat} {w w' : World} (h : Below B w w') : Below B w w'.drew := ⟨h.os, h.tape, h.output, h.size, h.block⟩
/-- of w' only the block g is another than of w -/
structure OnlyB (g : Nat) (w w' : World) : Prop where
  os : w'.os = w.os
  out : w'.output = w.output
  size : w'.heap.size = w.heap.size
  block : ∀ k, k ≠ g → w'.heap[k]? = w.heap[k]?
  bel : ∀ {B : Nat} {a : World}, B ≤ g → Below B a w → Below B a w'
section
variable {w w' : World} {g g' : Nat} {T : TypeId} {l : List Value}
theorem setCells_blk : ∀ (vs pre post : List Value) (w : World), BlkV w g T (pre ++ post) → post.length = vs.length → BlkV (w.setCells g pre.length vs) g T (pre ++ vs)
  | [], pre, post, w, h, hl => by
    obtain rfl : post = [] := List.eq_nil_of_length_eq_zero hl
    simpa [World.setCells] using h
  | v :: vs, pre, post, w, h, hl => by
    cases post with
    | nil => cases hl
    | cons u us =>
      have h1 := BlkV.put h pre.length v
      have e : (pre ++ u :: us).set pre.length v = (pre ++ [v]) ++ us := by simp
      rw [e] at h1
      have h2 := setCells_blk vs (pre ++ [v]) us _ h1 (by simpa using hl)
      simp only [List.length_append, List.length_cons, List.length_nil, List.append_assoc, List.singleton_append] at h2
      exact h2
theorem BlkV.puts {cs : List Value} (h : BlkV w g T l) (hl : l.length = cs.length) : BlkV (w.setCells g 0 cs) g T cs := by
  have := setCells_blk (g := g) (T := T) cs [] l w h hl
  simpa using this
theorem below_sets {B : Nat} {a : World} (hb : B ≤ g) : ∀ (vs : List Value) (o : Nat) (w : World), Below B a w → Below B a (w.setCells g o vs)
  | [], o, w, h => h
  | v :: vs, o, w, h => below_sets hb vs (o + 1) _ (h.setCell hb _)
theorem sets_size : ∀ (vs : List Value) (o : Nat) (w : World), (w.setCells g o vs).heap.size = w.heap.size
  | [], o, w => rfl
  | v :: vs, o, w => by
    show ((w.setCell ⟨g, o, none⟩ v).setCells g (o + 1) vs).heap.size = _
    rw [sets_size vs]
    simp
theorem sets_block {k : Nat} (hk : k ≠ g) : ∀ (vs : List Value) (o : Nat) (w : World), (w.setCells g o vs).heap[k]? = w.heap[k]?
  | [], o, w => rfl
  | v :: vs, o, w => by
    show ((w.setCell ⟨g, o, none⟩ v).setCells g (o + 1) vs).heap[k]? = _
    rw [sets_block hk vs]
    exact Go.heap_setCell_other w ⟨g, o, none⟩ k v hk
theorem OnlyB.sets (w : World) (g : Nat) (o : Nat) (vs : List Value) : OnlyB g w (w.setCells g o vs) :=
  ⟨(World.keptBut_setCells g (may := fun _ => True) vs o w (fun _ _ => trivial)).1, (World.keptBut_setCells g (may := fun _ => True) vs o w (fun _ _ => trivial)).2.1, sets_size vs o w, fun k hk => sets_block hk vs o w, fun hb h => below_sets hb vs o w h⟩
theorem OnlyB.set (w : World) (g i : Nat) (v : Value) : OnlyB g w (w.setCell ⟨g, i, none⟩ v) := OnlyB.sets w g i [v]
theorem BlkV.only (h : BlkV w g T l) (ho : OnlyB g' w w') (hne : g ≠ g') : BlkV w' g T l := (ho.block g hne).trans h
theorem OnlyB.grown (ho : OnlyB g w w') : w.grownBy w' (some g) := by
  have h := ho.bel (Nat.zero_le g) (Below.refl 0 w)
  exact ⟨h.os, h.tape, h.output, h.size, fun k _ hk => ho.block k (fun e => hk (by rw [e]))⟩
theorem own_only {base : Nat} {e : TypeId} {s n : Nat} {v : Value} {xs : List Value} (h : w.ownsRow base e s v n xs) (ho : OnlyB g w w') (hg : g < base) : w'.ownsRow base e s v n xs :=
  h.kept ho.grown (by
    cases hb : v.ownBlock with
    | none => exact .inl rfl
    | some k =>
      refine .inr fun he => ?_
      injection he with he
      have := (h.lt k hb).1
      omega)
theorem own_weak {base base' : Nat} {e : TypeId} {s n : Nat} {v : Value} {xs : List Value} (h : w.ownsRow base e s v n xs) (hb : base' ≤ base) : w.ownsRow base' e s v n xs := by
  rcases h with ⟨h1, h2 | ⟨g, cap, cur, e1, h3, h4⟩⟩
  · exact ⟨h1, .inl h2⟩
  · exact ⟨h1, .inr ⟨g, cap, cur, e1, Nat.le_trans hb h3, h4⟩⟩
theorem BlkV.there (h : BlkV w g T l) : w.there g 0 l.length := fun j hj => by
  rw [Nat.zero_add]
  refine ⟨?_, h.unfrozen j⟩
  rw [h.cell (List.getElem?_eq_getElem hj)]
  rfl
theorem BlkV.range (h : BlkV w g T l) : w.rangeAt g 0 l := fun j v hv => by
  rw [Nat.zero_add]
  exact h.cell hv
variable {P : Program} {ops : Array Oper} {rest : List Oper} {op : Oper} {a : Act} {Q : Exit → Act → World → Prop}
/-- a whole struct is loaded -/
theorem wpList_ldB (ty : TypeId) (x : Operand) (d : TypeDesc) (ho : op.op = .load ty x) (hgd : op.guard = none) (hx : a.eval x = .pointer (some ⟨g, 0, none⟩)) (h : BlkV w g T l)
    (hu : P.underlying ty = some d) (hd : d.isRow = true) (hi : (P.info? ty).map (·.size) = some l.length)
    (hk : wpList P ops Q rest (a.put op.dst (.agg l.toArray)) w) : wpList P ops Q (op :: rest) a w :=
  wpList_load_mid hgd ty x ho g 0 hx l d h.range hu hd hi hk
/-- a whole struct is stored -/
theorem wpList_stB (ty : TypeId) (x y : Operand) (ho : op.op = .store ty x y) (hgd : op.guard = none) (hx : a.eval x = .pointer (some ⟨g, 0, none⟩)) (cs : List Value) (hy : a.eval y = .agg cs.toArray) (h : BlkV w g T l) (hl : l.length = cs.length)
    (hi : (P.info? ty).map (·.size) = some cs.length) (h1 : cs.all (·.oneCell') = true)
    (hk : ∀ w', BlkV w' g T cs → OnlyB g w w' → wpList P ops Q rest (a.put op.dst undef) w') : wpList P ops Q (op :: rest) a w :=
  wpList_store_mid hgd ty x y ho g 0 cs.toArray hx hy (by have := h.there; rw [hl] at this; simpa using this) (by simpa using hi) (by simpa using h1) (hk _ (by simpa using h.puts hl) (by simpa using OnlyB.sets w g 0 cs))
/-- the same in a drawn region -/
theorem wp_ldB {K : Act → World → Prop} (ty : TypeId) (x : Operand) (d : TypeDesc) (ho : op.op = .load ty x) (hx : a.eval x = .pointer (some ⟨g, 0, none⟩)) (h : BlkV w g T l)
    (hu : P.underlying ty = some d) (hd : d.isRow = true) (hi : (P.info? ty).map (·.size) = some l.length)
    (hk : K (a.put op.dst (.agg l.toArray)) w) : op.wp P a w K Q :=
  wp_load_mid ty x ho g 0 hx l d h.range hu hd hi hk
theorem wp_stB {K : Act → World → Prop} (ty : TypeId) (x y : Operand) (hd : op.dst = none) (ho : op.op = .store ty x y) (hx : a.eval x = .pointer (some ⟨g, 0, none⟩)) (cs : List Value) (hy : a.eval y = .agg cs.toArray) (h : BlkV w g T l) (hl : l.length = cs.length)
    (hi : (P.info? ty).map (·.size) = some cs.length) (h1 : cs.all (·.oneCell') = true)
    (hk : ∀ w', BlkV w' g T cs → OnlyB g w w' → K a w') : op.wp P a w K Q :=
  wp_store_mid ty x y ho g 0 cs.toArray hx hy (by have := h.there; rw [hl] at this; simpa using this) (by simpa using hi) (by simpa using h1) (by rw [hd]; exact hk _ (by simpa using h.puts hl) (by simpa using OnlyB.sets w g 0 cs))
theorem yields_ldB {S : World → Prop} (ty : TypeId) (x : Operand) (d : TypeDesc) (hw : Region.wanted op (yielded ops a.tmps) = true) (ho : op.op = .load ty x) (hx : a.eval x = .pointer (some ⟨g, 0, none⟩)) (hS : ∀ w, S w → BlkV w g T l)
    (hu : P.underlying ty = some d) (hd : d.isRow = true) (hi : (P.info? ty).map (·.size) = some l.length) : YieldsIf P ops S op (.agg l.toArray) a :=
  yieldsIf_load_mid hw ty x ho g 0 hx l d (fun w h => (hS w h).range) hu hd hi
theorem wpAnyH_takeD {md : Region.Mode} {S : World → Prop} {i : Nat} {oi : Oper} (D : Option Tmp) {v : Value} {fuel : Nat} {listed : Array Bool} (hi : ops[i]? = some oi) (hd : oi.dst = D)
    (hs : Region.noSelect ops = true) (hf : Region.free md ops listed i = true) (hr : (Region.ready md ops listed).contains i = true)
    (hQ : ∀ c a w, Q (.panic c) (a.put oi.dst v) w → Q (.panic c) a w) (hy : YieldsIf P ops S oi v a) (hS : S w)
    (h : wpAnyH P md ops Q S fuel (listed.setIfInBounds i true) (a.put D v) w) : wpAnyH P md ops Q S (fuel + 1) listed a w :=
  wpAnyH_take hi hs hf hr hQ hy hS (by rw [hd]; exact h)
/-! ### one cell -/
theorem run_loadVar_one (w : World) (b o : Nat) (ty : TypeId) (v : Value) (d : TypeDesc) (hc : w.cell? ⟨b, o, none⟩ = some v) (hu : P.underlying ty = some d) (hd : d.isRow = false) :
    (loadVar ty ⟨b, o, none⟩).run P w = .ok v w := by
  have hagg : (isAgg ty).run P w = .ok false w := by
    unfold isAgg
    rw [Sem.run_bind, run_underlying hu w]
    cases d <;> simp_all
  simp [loadVar, Sem.run_bind, hagg, hc]
theorem cells_one {v : Value} (h : v.oneCell' = true) : v.cells = #[v] := by
  cases v <;> first | rfl | (simp [Value.oneCell'] at h)
theorem run_storeVar_one (w : World) (b o : Nat) (ty : TypeId) (u v : Value) (hc : w.cell? ⟨b, o, none⟩ = some u) (hf : w.frozen? ⟨b, o, none⟩ = false) (hi : (P.info? ty).map (·.size) = some 1) (h1 : v.oneCell' = true) :
    (storeVar ty ⟨b, o, none⟩ v).run P w = .ok () (w.setCell ⟨b, o, none⟩ v) := by
  have := run_storeCells_cells (P := P) b o [v] 0 w (fun j hj => by
      obtain rfl : j = 0 := by simpa using hj
      simp only [Nat.add_zero]
      rw [hc]; rfl) (fun j hj => by
      obtain rfl : j = 0 := by simpa using hj
      simpa using hf) (fun x hx => by
      rw [List.mem_singleton] at hx
      rw [hx]; exact h1)
  cases hq : P.info? ty with
  | none => simp [hq] at hi
  | some i =>
    have hs : i.size = 1 := by simpa [hq] using hi
    simp only [Nat.add_zero] at this
    simp [storeVar, sizeOf, typeInfo, hq, cells_one h1, hs, this]
    rfl
theorem wp_ldF {K : Act → World → Prop} (ty : TypeId) (x : Operand) (d : TypeDesc) (i : Nat) (v : Value) (ho : op.op = .load ty x) (hx : a.eval x = .pointer (some ⟨g, i, none⟩)) (h : BlkV w g T l) (hv : l[i]? = some v)
    (hu : P.underlying ty = some d) (hd : d.isRow = false)
    (hk : K (a.put op.dst v) w) : op.wp P a w K Q := by
  unfold Oper.wp execOp
  simp only [ho, hx, Instr.loadAt, Instr.sureAddr, Sem.run_bind, Sem.run_pure, Result.andThen_ok, run_loadVar_one w g i ty v d (h.cell hv) hu hd]
  exact hk
theorem wpList_ldF (ty : TypeId) (x : Operand) (d : TypeDesc) (i : Nat) (v : Value) (ho : op.op = .load ty x) (hgd : op.guard = none) (hx : a.eval x = .pointer (some ⟨g, i, none⟩)) (h : BlkV w g T l) (hv : l[i]? = some v)
    (hu : P.underlying ty = some d) (hd : d.isRow = false)
    (hk : wpList P ops Q rest (a.put op.dst v) w) : wpList P ops Q (op :: rest) a w :=
  wpList_plain hgd fun _ hK => wp_ldF ty x d i v ho hx h hv hu hd (hK _ _ hk)
theorem yields_ldF {S : World → Prop} (ty : TypeId) (x : Operand) (d : TypeDesc) (i : Nat) (v : Value) (hw : Region.wanted op (yielded ops a.tmps) = true) (ho : op.op = .load ty x) (hx : a.eval x = .pointer (some ⟨g, i, none⟩)) (hS : ∀ w, S w → w.cell? ⟨g, i, none⟩ = some v)
    (hu : P.underlying ty = some d) (hd : d.isRow = false) : YieldsIf P ops S op v a :=
  .inl ⟨hw, fun w hw' => by
    unfold execOp
    simp only [ho, hx, Instr.loadAt, Instr.sureAddr, Sem.run_bind, Sem.run_pure, Result.andThen_ok, run_loadVar_one w g i ty v d (hS w hw') hu hd]⟩
theorem wp_stF {K : Act → World → Prop} (ty : TypeId) (x y : Operand) (i : Nat) (v : Value) (hd : op.dst = none) (ho : op.op = .store ty x y) (hx : a.eval x = .pointer (some ⟨g, i, none⟩)) (hy : a.eval y = v) (h : BlkV w g T l) (hl : i < l.length)
    (hi : (P.info? ty).map (·.size) = some 1) (h1 : v.oneCell' = true)
    (hk : ∀ w', BlkV w' g T (l.set i v) → OnlyB g w w' → K a w') : op.wp P a w K Q := by
  unfold Oper.wp execOp
  simp only [ho, hx, hy, Instr.storeAt, Instr.sureAddr, Sem.run_bind, Sem.run_pure, Result.andThen_ok, run_storeVar_one w g i ty _ v (h.cell (List.getElem?_eq_getElem hl)) (h.unfrozen i) hi h1]
  show K (a.put op.dst undef) _
  rw [hd]
  exact hk _ (h.put i v) (OnlyB.set w g i v)
theorem wpList_stF (ty : TypeId) (x y : Operand) (i : Nat) (v : Value) (hd : op.dst = none) (ho : op.op = .store ty x y) (hgd : op.guard = none) (hx : a.eval x = .pointer (some ⟨g, i, none⟩)) (hy : a.eval y = v) (h : BlkV w g T l) (hl : i < l.length)
    (hi : (P.info? ty).map (·.size) = some 1) (h1 : v.oneCell' = true)
    (hk : ∀ w', BlkV w' g T (l.set i v) → OnlyB g w w' → wpList P ops Q rest a w') : wpList P ops Q (op :: rest) a w :=
  wpList_plain hgd fun _ hK => wp_stF ty x y i v hd ho hx hy h hl hi h1 fun w' h1 h2 => hK _ _ (hk w' h1 h2)
end
end Go.Proofs.Ytihhcalgjkkalaa
