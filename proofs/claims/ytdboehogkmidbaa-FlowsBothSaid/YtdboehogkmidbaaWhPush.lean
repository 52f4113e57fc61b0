/- The walk of the alarms' Push. -/
import Derived.Test.YtdboehogkmidbaaWhPop
namespace Go.Proofs.Ytdboehogkmidbaa
open Go.RowKit
set_option linter.unusedVariables false
set_option linter.unusedSimpArgs false
theorem wp_mapNew {P : Program} {w : World} {t k e : TypeId} {g : Nat} {es : List Mi.E} {c : Nat} {op : Oper} {a : Act} {K : Act → World → Prop} {Q : Exit → Act → World → Prop} (m x y : Operand) (ho : op.op = .mapUpdate t m x y) (hd : op.dst = none) (ht : P.underlying t = some (.map k e)) (hk : P.underlying k = some (.int .i64)) (hm : a.eval m = .map (some g)) {q v : Int} (hx : a.eval x = .int .i64 q) (hy : a.eval y = .int .i64 v) (h : MapE w g es c) (hg : Mi.get es q = none)
    (hK : ∀ w', MapE w' g (es ++ [(q, v, c)]) (c + 1) → OnlyB g w w' → K a w') : op.wp P a w K Q := by
  obtain ⟨w', hrun, h1, h2⟩ := h.new (P := P) (t := t) ht hk v hg
  unfold Oper.wp
  simp [execOp, ho, hm, hx, hy, hrun, Result.andThen]
  have : K (a.put op.dst undef) w' := by rw [hd]; exact hK w' h1 h2
  exact this
theorem own_map {w w' : World} {g b sz n : Nat} {e : TypeId} {v : Value} {xs : List Value} {es : List Mi.E} {c : Nat} (h : w.ownsRow b e sz v n xs) (hm : MapE w g es c) (ho : OnlyB g w w') : w'.ownsRow b e sz v n xs := by
  obtain ⟨h1, h2 | ⟨gr, cap, cur, hv, hb, hg, hr⟩⟩ := h
  · exact ⟨h1, Or.inl h2⟩
  · refine ⟨h1, Or.inr ⟨gr, cap, cur, hv, hb, ?_, hr⟩⟩
    rw [ho.block gr (fun e => by rw [e, hm.blk] at hg; cases hg)]
    exact hg
theorem own_box {w w' : World} {g b sz n : Nat} {e T : TypeId} {v : Value} {xs vs : List Value} (h : w.ownsRow b e sz v n xs) (hm : BlkV w g T vs) (hne : e ≠ T) (ho : OnlyB g w w') : w'.ownsRow b e sz v n xs := by
  obtain ⟨h1, h2 | ⟨gr, cap, cur, hv, hb, hg, hr⟩⟩ := h
  · exact ⟨h1, Or.inl h2⟩
  · refine ⟨h1, Or.inr ⟨gr, cap, cur, hv, hb, ?_, hr⟩⟩
    rw [ho.block gr (fun e1 => by unfold BlkV at hm; rw [e1, hm] at hg; injection hg with hg; injection hg with _ hg; exact hne hg.symm)]
    exact hg
theorem own_ne {w : World} {g b sz n : Nat} {e T : TypeId} {v : Value} {xs vs : List Value} (h : w.ownsRow b e sz v n xs) (hm : BlkV w g T vs) (hne : e ≠ T) : v.ownBlock ≠ some g := by
  obtain ⟨h1, ⟨rfl, _⟩ | ⟨gr, cap, cur, rfl, hb, hg, hr⟩⟩ := h
  · simp [Value.ownBlock]
  · intro e1
    simp only [Value.ownBlock, Option.some.injEq] at e1
    unfold BlkV at hm
    rw [e1, hm] at hg
    injection hg with hg
    injection hg with _ hg
    exact hne hg.symm
theorem own_nem {w : World} {g b sz n : Nat} {e : TypeId} {v : Value} {xs : List Value} {es : List Mi.E} {c : Nat} (h : w.ownsRow b e sz v n xs) (hm : MapE w g es c) : v.ownBlock ≠ some g := by
  obtain ⟨h1, ⟨rfl, _⟩ | ⟨gr, cap, cur, rfl, hb, hg, hr⟩⟩ := h
  · simp [Value.ownBlock]
  · intro e1
    simp only [Value.ownBlock, Option.some.injEq] at e1
    rw [e1, hm.blk] at hg
    cases hg
theorem step_app0 {P : Program} {w : World} {ops : Array Oper} {o : Oper} {a : Act} {K : Act → World → Prop} {E : Prop} (hw : Region.wanted o (yielded ops a.tmps) = true) (s x : Operand) (t : TypeId)
    {Q : Exit → Act → World → Prop}
    (ho : o.op = .call { callee := .builtin .append, args := #[s, x], argTypes := #[t, t] })
    (e : TypeId) (z : Value) (size bytes : Nat) (ht : P.underlying t = some (.slice e))
    (hinfo : (P.info? e).map (fun i => (i.zero, i.size, i.bytes)) = some (some z, size, bytes)) (hzs : z.cells.size = size) (hsz : 0 < size)
    (v : Value) (n : Nat) (xs : List Value) (hs : a.eval s = v) (hown : w.ownsRow 0 e size v n xs)
    (A : Option Addr) (m c : Nat) (news : List Value) (hx : a.eval x = .slice A m c) (hr : Rd w size A m news) (h1 : ∀ u ∈ news, u.oneCell' = true)
    (h63 : n + m ≤ maxLen) (hbytes : (n + m) * bytes ≤ 140737488355328)
    (h : ∀ A' c' w', w'.ownsRow 0 e size (.slice A' (n + m) c') (n + m) (xs ++ news) → w.grownBy w' v.ownBlock → ((Value.slice A' (n + m) c').ownBlock = v.ownBlock ∨ (Value.slice A' (n + m) c').ownBlock = some w.heap.size) → K (a.put o.dst (.slice A' (n + m) c')) w') :
    if Region.wanted o (yielded ops a.tmps) = true then Oper.wp P o a w K Q else E := by
  rw [if_pos hw]
  obtain ⟨i, hi, hz, hsize, hby⟩ := info_parts hinfo
  obtain ⟨A', c', w', hrun, h2, h3, h4⟩ := run_append_rd (P := P) w 0 t o.type e i z size bytes ht hi hz hsize hby hzs hsz _ n xs hown A m c news hr h1 h63 hbytes (Nat.zero_le _)
  unfold Oper.wp execOp
  simp only [ho, resolve, invoke, builtin, Sem.run_bind, Sem.run_pure, Result.andThen_ok, List.map_toArray, List.map_cons, List.map_nil, hs, hx, hrun]
  exact h A' c' w' h2 h3 h4
theorem infoA : (Try.prog.info? 86).map (fun i => (i.zero, i.size, i.bytes)) = some (some (.agg #[.int .i64 0, .int .i64 0]), 2, 16) := by kernel_rfl
theorem rd_al (w : World) (x : Wh.Al) (e : TypeId) : Rd (w.alloc (.cells #[.int .i64 x.k, .int .i64 x.t] e)) 2 (some ⟨w.heap.size, 0, none⟩) 1 x.cells := by
  refine ⟨rfl, fun _ => ⟨_, _, rfl, by simp, fun j u hu => ?_⟩⟩
  rw [cell_of_row _ _ (0 + j) _ _ (0, 0) (heap_alloc_new w _)]
  simpa [Wh.Al.cells] using hu
theorem one_al (x : Wh.Al) : ∀ u ∈ x.cells, u.oneCell' = true := by
  intro u hu
  simp only [Wh.Al.cells, List.mem_cons, List.not_mem_nil, or_false] at hu
  rcases hu with rfl | rfl <;> rfl
def PushR (g gm : Nat) (A : Option Addr) (n c : Nat) (x : Wh.Al) (l : List Wh.Al) (es : List Mi.E) (ck : Nat) (now : Int) (w : World) (e : Ending) (w' : World) : Prop :=
  e = .returned (.tuple #[]) ∧ ∃ A' c', BlkV w' g 79 [.slice A' (n + 1) c', .map (some gm), .int .i64 now] ∧ MapE w' gm (es ++ [(x.k, (n : Int), ck)]) (ck + 1) ∧
    w'.ownsRow 0 86 2 (.slice A' (n + 1) c') (n + 1) (acells (l ++ [x])) ∧ ((Value.slice A' (n + 1) c').ownBlock = (Value.slice A n c).ownBlock ∨ ∃ b, (Value.slice A' (n + 1) c').ownBlock = some b ∧ w.heap.size ≤ b) ∧
    Keeps (fun k => k = g ∨ k = gm ∨ (Value.slice A n c).ownBlock = some k) w w'
set_option maxRecDepth 8000 in
set_option maxHeartbeats 8000000 in
theorem apush_spec (g gm : Nat) (A : Option Addr) (n c : Nat) (x : Wh.Al) (l : List Wh.Al) (es : List Mi.E) (ck : Nat) (now : Int) (w : World) (hB : BlkV w g 79 [.slice A n c, .map (some gm), .int .i64 now])
    (hmg : g ≠ gm) (hM : MapE w gm es ck) (hn : n ≤ 1000) (hO : w.ownsRow 0 86 2 (.slice A n c) n (acells l)) (hk : Mi.get es x.k = none) :
    Calls Try.prog 63 #[.pointer (some ⟨g, 0, none⟩), .iface 86 (.agg #[.int .i64 x.k, .int .i64 x.t])] w (PushR g gm A n c x l es ck now w) := by
  obtain ⟨V, hV⟩ : ∃ V, V = w.alloc (.cells #[.int .i64 x.k, .int .i64 x.t] 86) := ⟨_, rfl⟩
  have aV : Below w.heap.size w V := by rw [hV]; exact (Below.refl _ _).alloc (Nat.le_refl _) _
  have BV := hB.below aV
  have BN : BlkV V w.heap.size 86 [.int .i64 x.k, .int .i64 x.t] := by rw [hV]; exact BlkV.new _ _ _
  have MV : MapE V gm es ck := ⟨(aV.block _ hM.lt).trans hM.blk, hM.ok⟩
  have OV := own_below hO aV
  have hAg : (Value.slice A n c).ownBlock ≠ some g := own_ne hO hB (by decide)
  have hAm : (Value.slice A n c).ownBlock ≠ some gm := own_nem hO hM
  have hAn : (Value.slice A n c).ownBlock ≠ some w.heap.size := fun e => by have := (hO.lt _ e).2; omega
  have HAs := Lib.hid (And.intro hAg (And.intro hAm hAn))
  clear hAg hAm hAn
  have hgn : w.heap.size ≠ gm := by have := hM.lt; omega
  have hgg : w.heap.size ≠ g := by have := hB.lt; omega
  have HV := Lib.hid hV
  have HBV := Lib.hid BV
  have HBN := Lib.hid BN
  have HMV := Lib.hid MV
  have HOV := Lib.hid OV
  have HKV := Lib.hid aV
  have HK := Lib.hid hk
  clear hV hB hM hk hO aV BV BN MV OV
  have TA : ∀ W : World, (Instr.typeAssert (.iface 86 (.agg #[.int .i64 x.k, .int .i64 x.t])) 20 86 false).run Try.prog W = .ok (.agg #[.int .i64 x.k, .int .i64 x.t]) W := fun W => by kernel_rfl
  go_enter Try.func63, Try.ntmps63
  go_wp2_with fail
  rw [← HV.out]
  refine wp_region_held_drew (S := fun w' => (w'.cell? ⟨g, 0, none⟩ = some (.slice A n c) ∧ w'.cell? ⟨g, 1, none⟩ = some (.map (some gm)) ∧ w'.cell? ⟨w.heap.size, 0, none⟩ = some (.int .i64 x.k))) (by kernel_rfl) ⟨HBV.out.cell rfl, HBV.out.cell rfl, HBN.out.cell rfl⟩ (fun hHeld => ?_)
  refine wpAnyH_takeD (i := 0) (some 7) (v := ?_) rfl rfl (by kernel_rfl) (by kernel_rfl) (by kernel_rfl) (fun _ _ _ h => h) (Or.inl ⟨by rfl, ?_⟩) (by assumption) ?_
  rotate_left
  · (intro w hSw; (try dsimp only at hSw); go_simp; try with_reducible rfl)
  try simp only [Act.put, List.setIfInBounds_toArray, List.set_cons_zero, List.set_cons_succ]
  refine wpAnyH_takeD (i := 1) (some 8) (v := ?_) rfl rfl (by kernel_rfl) (by kernel_rfl) (by kernel_rfl) (fun _ _ _ h => h) (Or.inl ⟨by rfl, ?_⟩) (by assumption) ?_
  rotate_left
  · (intro w hSw; (try dsimp only at hSw); go_simp; try with_reducible rfl)
  try simp only [Act.put, List.setIfInBounds_toArray, List.set_cons_zero, List.set_cons_succ]
  refine wpAnyH_takeD (i := 2) (some 9) (v := ?_) rfl rfl (by kernel_rfl) (by kernel_rfl) (by kernel_rfl) (fun _ _ _ h => h) (Or.inl ⟨by rfl, ?_⟩) (by assumption) ?_
  rotate_left
  · (intro w hSw; (try dsimp only at hSw); go_simp; try with_reducible rfl)
  try simp only [Act.put, List.setIfInBounds_toArray, List.set_cons_zero, List.set_cons_succ]
  refine wpAnyH_takeD (i := 3) (some 10) (v := ?_) rfl rfl (by kernel_rfl) (by kernel_rfl) (by kernel_rfl) (fun _ _ _ h => h) (Or.inl ⟨by rfl, ?_⟩) (by assumption) ?_
  rotate_left
  · (intro w hSw; (try dsimp only at hSw); go_simp; try with_reducible rfl)
  try simp only [Act.put, List.setIfInBounds_toArray, List.set_cons_zero, List.set_cons_succ]
  refine wpAnyH_takeD (i := 4) (some 11) (v := ?_) rfl rfl (by kernel_rfl) (by kernel_rfl) (by kernel_rfl) (fun _ _ _ h => h) (Or.inl ⟨by rfl, ?_⟩) (by assumption) ?_
  rotate_left
  · (intro w hSw; (try dsimp only at hSw); go_simp; try with_reducible rfl)
  try simp only [Act.put, List.setIfInBounds_toArray, List.set_cons_zero, List.set_cons_succ]
  refine wpAnyH_takeD (i := 5) (some 12) (v := ?_) rfl rfl (by kernel_rfl) (by kernel_rfl) (by kernel_rfl) (fun _ _ _ h => h) (Or.inl ⟨by rfl, ?_⟩) (by assumption) ?_
  rotate_left
  · (intro w hSw; (try dsimp only at hSw); go_simp; try with_reducible rfl)
  try simp only [Act.put, List.setIfInBounds_toArray, List.set_cons_zero, List.set_cons_succ]
  refine wpAnyH_takeD (i := 6) (some 13) (v := ?_) rfl rfl (by kernel_rfl) (by kernel_rfl) (by kernel_rfl) (fun _ _ _ h => h) (Or.inl ⟨by rfl, ?_⟩) (by assumption) ?_
  rotate_left
  · (intro w hSw; (try dsimp only at hSw); go_simp; try with_reducible rfl)
  try simp only [Act.put, List.setIfInBounds_toArray, List.set_cons_zero, List.set_cons_succ]
  refine wpAnyH_takeD (i := 7) (some 14) (v := ?_) rfl rfl (by kernel_rfl) (by kernel_rfl) (by kernel_rfl) (fun _ _ _ h => h) (Or.inl ⟨by rfl, ?_⟩) (by assumption) ?_
  rotate_left
  · (intro w hSw; (try dsimp only at hSw); go_simp; try with_reducible rfl)
  try simp only [Act.put, List.setIfInBounds_toArray, List.set_cons_zero, List.set_cons_succ]
  refine wpAnyH_takeD (i := 8) (some 15) (v := ?_) rfl rfl (by kernel_rfl) (by kernel_rfl) (by kernel_rfl) (fun _ _ _ h => h) (Or.inl ⟨by rfl, ?_⟩) (by assumption) ?_
  rotate_left
  · (intro w hSw; (try dsimp only at hSw); go_simp; try with_reducible rfl)
  try simp only [Act.put, List.setIfInBounds_toArray, List.set_cons_zero, List.set_cons_succ]
  refine wpAnyH_takeD (i := 9) (some 16) (v := ?_) rfl rfl (by kernel_rfl) (by kernel_rfl) (by kernel_rfl) (fun _ _ _ h => h) (Or.inl ⟨by rfl, ?_⟩) (by assumption) ?_
  rotate_left
  · (intro w hSw; (try dsimp only at hSw); go_simp; try with_reducible rfl)
  try simp only [Act.put, List.setIfInBounds_toArray, List.set_cons_zero, List.set_cons_succ]
  refine wpAnyH_takeD (i := 10) (some 17) (v := ?_) rfl rfl (by kernel_rfl) (by kernel_rfl) (by kernel_rfl) (fun _ _ _ h => h) (Or.inl ⟨by rfl, ?_⟩) (by assumption) ?_
  rotate_left
  · (intro w hSw; (try dsimp only at hSw); go_simp; try with_reducible rfl)
  try simp only [Act.put, List.setIfInBounds_toArray, List.set_cons_zero, List.set_cons_succ]
  refine wpAnyH_ready (rs := [11]) (by kernel_rfl) (by simp) ?_
  refine AllReadyH.cons (o := _) rfl (fun K hK => ?_) AllReadyH.nil
  rw [if_pos (by rfl)]
  refine wp_mapNew (k := 3) (e := 3) (g := gm) (es := es) (c := ck) (q := x.k) (v := n) (w := V.drew) _ _ _ rfl rfl (by kernel_rfl) (by kernel_rfl) rfl rfl rfl (show MapE V.drew gm es ck from ⟨HMV.out.blk, HMV.out.ok⟩) HK.out ?_
  intro wa Ma Oa
  refine hK.out _ _ ⟨(Oa.cell hmg).trans hHeld.1, (Oa.cell hmg).trans hHeld.2.1, (Oa.cell hgn).trans hHeld.2.2⟩ (fun hHeld => ?_)
  clear hK K
  try simp only [Act.put, List.setIfInBounds_toArray, List.set_cons_zero, List.set_cons_succ]
  refine wpAnyH_done (by kernel_rfl) ?_ _
  have Bg := (show BlkV V.drew g _ _ from HBV.out).only Oa hmg
  have Bn := (show BlkV V.drew w.heap.size _ _ from HBN.out).only Oa hgn
  have Ow := own_map (show V.drew.ownsRow 0 _ 2 _ _ _ from HOV.out) (show MapE V.drew gm es ck from ⟨HMV.out.blk, HMV.out.ok⟩) Oa
  have KA : Keeps (fun k => k = gm) w wa := by
    refine (Keeps.of_below HKV.out _).trans ?_ (fun k hk => Or.inl hk)
    have k1 : Keeps (fun k => k = gm) V V.drew := Keeps.of_below (bel_d (Below.refl _ V)) _
    exact k1.trans (Keeps.of_only Oa (fun k => k = gm) rfl) (fun k hk => Or.inl hk)
  have HBg := Lib.hid Bg
  have HBn := Lib.hid Bn
  have HOw := Lib.hid Ow
  have HMa := Lib.hid Ma
  have HKA := Lib.hid KA
  have d0 : wa.cell? ⟨w.heap.size, 0, none⟩ = some (.int .i64 x.k) := Bn.cell rfl
  have d1 : wa.cell? ⟨w.heap.size, 1, none⟩ = some (.int .i64 x.t) := Bn.cell rfl
  have c0 : wa.drew.cell? ⟨g, 0, none⟩ = some (.slice A n c) := Bg.cell rfl
  have HO1 : Hid ((wa.drew.alloc (.cells #[.int .i64 x.k, .int .i64 x.t] 86)).ownsRow 0 86 2 (.slice A n c) n (acells l)) := Lib.hid ((show wa.drew.ownsRow 0 _ 2 _ _ _ from Ow).alloc _)
  have HBn1 : Hid (BlkV (wa.drew.alloc (.cells #[.int .i64 x.k, .int .i64 x.t] 86)) w.heap.size 86 [.int .i64 x.k, .int .i64 x.t]) := Lib.hid ((show BlkV wa.drew w.heap.size _ _ from Bn).alloc _)
  have HBg1 : Hid (BlkV (wa.drew.alloc (.cells #[.int .i64 x.k, .int .i64 x.t] 86)) g 79 [.slice A n c, .map (some gm), .int .i64 now]) := Lib.hid ((show BlkV wa.drew g _ _ from Bg).alloc _)
  have HMa1 : Hid (MapE (wa.drew.alloc (.cells #[.int .i64 x.k, .int .i64 x.t] 86)) gm (es ++ [(x.k, (n : Int), ck)]) (ck + 1)) := Lib.hid (by
    have hb : Below wa.heap.size wa (wa.drew.alloc (.cells #[.int .i64 x.k, .int .i64 x.t] 86)) := bel_al2 (bel_d (Below.refl _ wa)) _
    exact ⟨(hb.block _ Ma.lt).trans Ma.blk, Ma.ok⟩)
  have HKA1 : Hid (Keeps (fun k => k = g ∨ k = gm ∨ (Value.slice A n c).ownBlock = some k) w (wa.drew.alloc (.cells #[.int .i64 x.k, .int .i64 x.t] 86))) := Lib.hid (by
    have hb : Below wa.heap.size wa (wa.drew.alloc (.cells #[.int .i64 x.k, .int .i64 x.t] 86)) := bel_al2 (bel_d (Below.refl _ wa)) _
    have k2 : Keeps (fun k => k = g ∨ k = gm ∨ (Value.slice A n c).ownBlock = some k) w wa := ⟨KA.os, KA.tape, KA.out, KA.size, fun k hk hn => KA.block k hk (fun e => hn (Or.inr (Or.inl e)))⟩
    exact k2.trans (Keeps.of_below hb (fun _ => False)) (fun k hk => hk.elim))
  have HGG := Lib.hid hgg
  clear Bg Bn Ow Ma KA Oa hHeld HBV HBN HMV HOV HKV HV HK TA
  go_wp2_with fail
  refine wp_region_held_drew (S := fun w' => (w'.cell? ⟨w.heap.size, 0, none⟩ = some (.int .i64 x.k) ∧ w'.cell? ⟨w.heap.size, 1, none⟩ = some (.int .i64 x.t))) (by kernel_rfl) ⟨d0, d1⟩ (fun hHeld => ?_)
  clear d0 d1
  refine wpAnyH_takeD (i := 0) (some 18) (v := ?_) rfl rfl (by kernel_rfl) (by kernel_rfl) (by kernel_rfl) (fun _ _ _ h => h) (Or.inl ⟨by rfl, ?_⟩) (by assumption) ?_
  rotate_left
  · (intro w hSw; (try dsimp only at hSw); go_simp; try with_reducible rfl)
  try simp only [Act.put, List.setIfInBounds_toArray, List.set_cons_zero, List.set_cons_succ]
  refine wpAnyH_takeD (i := 1) (some 19) (v := ?_) rfl rfl (by kernel_rfl) (by kernel_rfl) (by kernel_rfl) (fun _ _ _ h => h) (Or.inl ⟨by rfl, ?_⟩) (by assumption) ?_
  rotate_left
  · (intro w hSw; (try dsimp only at hSw); go_simp; try with_reducible rfl)
  try simp only [Act.put, List.setIfInBounds_toArray, List.set_cons_zero, List.set_cons_succ]
  refine wpAnyH_takeD (i := 2) (some 20) (v := ?_) rfl rfl (by kernel_rfl) (by kernel_rfl) (by kernel_rfl) (fun _ _ _ h => h) (Or.inl ⟨by rfl, ?_⟩) (by assumption) ?_
  rotate_left
  · (intro w hSw; (try dsimp only at hSw); go_simp; try with_reducible rfl)
  try simp only [Act.put, List.setIfInBounds_toArray, List.set_cons_zero, List.set_cons_succ]
  refine wpAnyH_takeD (i := 3) (some 21) (v := ?_) rfl rfl (by kernel_rfl) (by kernel_rfl) (by kernel_rfl) (fun _ _ _ h => h) (Or.inl ⟨by rfl, ?_⟩) (by assumption) ?_
  rotate_left
  · (intro w hSw; (try dsimp only at hSw); go_simp; try with_reducible rfl)
  try simp only [Act.put, List.setIfInBounds_toArray, List.set_cons_zero, List.set_cons_succ]
  refine wpAnyH_takeD (i := 5) (some 23) (v := ?_) rfl rfl (by kernel_rfl) (by kernel_rfl) (by kernel_rfl) (fun _ _ _ h => h) (Or.inl ⟨by rfl, ?_⟩) (by assumption) ?_
  rotate_left
  · (intro w hSw; (try dsimp only at hSw); go_simp; try with_reducible rfl)
  try simp only [Act.put, List.setIfInBounds_toArray, List.set_cons_zero, List.set_cons_succ]
  refine wpAnyH_ready (rs := [4, 6]) (by kernel_rfl) (by simp) ?_
  refine AllReadyH.cons (o := _) rfl (fun K hK => ?_) (AllReadyH.cons (o := _) rfl (fun K hK => ?_) AllReadyH.nil)
  · go_simp
    refine hK.out _ _ hHeld (fun hHeld => ?_)
    clear hK K
    try simp only [Act.put, List.setIfInBounds_toArray, List.set_cons_zero, List.set_cons_succ]
    refine wpAnyH_ready (rs := [6]) (by kernel_rfl) (by simp) ?_
    refine AllReadyH.cons (o := _) rfl (fun K hK => ?_) AllReadyH.nil
    go_simp
    refine hK.out _ _ ⟨HBn1.out.cell rfl, HBn1.out.cell rfl⟩ (fun hHeld => ?_)
    clear hK K
    try simp only [Act.put, List.setIfInBounds_toArray, List.set_cons_zero, List.set_cons_succ]
    refine wpAnyH_ready (rs := [7]) (by kernel_rfl) (by simp) ?_
    refine AllReadyH.cons (o := _) rfl (fun K hK => ?_) AllReadyH.nil
    refine step_app0 (by rfl) (.tmp 22) (.tmp 24) 75 (by rfl) 86 _ 2 16 (by kernel_rfl) infoA rfl (by decide) (.slice A n c) n (acells l) (by rfl) HO1.out (some ⟨_, 0, none⟩) 1 1 x.cells (by rfl) (rd_al wa.drew x _) (one_al x) (by unfold maxLen; omega) (by omega) ?_
    intro A' c' wb hown hgr hat
    have Bgb : BlkV wb g 79 [.slice A n c, .map (some gm), .int .i64 now] := (hgr.block g (by have := HBg1.out.lt; exact this) (fun e => HAs.out.1 e.symm)).trans HBg1.out
    have Bnb : BlkV wb w.heap.size 86 [.int .i64 x.k, .int .i64 x.t] := (hgr.block _ HBn1.out.lt (fun e => HAs.out.2.2 e.symm)).trans HBn1.out
    have Mb : MapE wb gm (es ++ [(x.k, (n : Int), ck)]) (ck + 1) := ⟨(hgr.block _ HMa1.out.lt (fun e => HAs.out.2.1 e.symm)).trans HMa1.out.blk, HMa1.out.ok⟩
    refine hK.out _ _ ⟨Bnb.cell rfl, Bnb.cell rfl⟩ (fun hHeld => ?_)
    clear hK K
    try simp only [Act.put, List.setIfInBounds_toArray, List.set_cons_zero, List.set_cons_succ]
    refine wpAnyH_takeD (i := 8) (some 26) (v := ?_) rfl rfl (by kernel_rfl) (by kernel_rfl) (by kernel_rfl) (fun _ _ _ h => h) (Or.inl ⟨by rfl, ?_⟩) (by assumption) ?_
    rotate_left
    · (intro w hSw; (try dsimp only at hSw); go_simp; try with_reducible rfl)
    try simp only [Act.put, List.setIfInBounds_toArray, List.set_cons_zero, List.set_cons_succ]
    refine wpAnyH_takeD (i := 9) (some 27) (v := ?_) rfl rfl (by kernel_rfl) (by kernel_rfl) (by kernel_rfl) (fun _ _ _ h => h) (Or.inl ⟨by rfl, ?_⟩) (by assumption) ?_
    rotate_left
    · (intro w hSw; (try dsimp only at hSw); go_simp; try with_reducible rfl)
    try simp only [Act.put, List.setIfInBounds_toArray, List.set_cons_zero, List.set_cons_succ]
    refine wpAnyH_ready (rs := [10]) (by kernel_rfl) (by simp) ?_
    refine AllReadyH.cons (o := _) rfl (fun K hK => ?_) AllReadyH.nil
    rw [if_pos (by rfl)]
    refine wp_stF 75 _ _ 0 (.slice A' (n + 1) c') rfl (by rfl) (by rfl) (by rfl) Bgb (by simp) (by kernel_rfl) rfl ?_
    intro wc Bgc Oc
    refine hK.out _ _ ⟨(Oc.cell HGG.out).trans hHeld.1, (Oc.cell HGG.out).trans hHeld.2⟩ (fun hHeld => ?_)
    clear hK K
    try simp only [Act.put, List.setIfInBounds_toArray, List.set_cons_zero, List.set_cons_succ]
    refine wpAnyH_done (by kernel_rfl) ?_ _
    have Mc : MapE wc gm (es ++ [(x.k, (n : Int), ck)]) (ck + 1) := ⟨(Oc.block gm (Ne.symm hmg)).trans Mb.blk, Mb.ok⟩
    have Owc := own_box hown Bgb (by decide) Oc
    rw [show acells l ++ x.cells = acells (l ++ [x]) by simp [acells]] at Owc
    have KC : Keeps (fun k => k = g ∨ k = gm ∨ (Value.slice A n c).ownBlock = some k) w wc := by
      have k1 : Keeps (fun k => (Value.slice A n c).ownBlock = some k) _ wb := ⟨hgr.os, hgr.tape, hgr.output, hgr.size, fun k hk hn => hgr.block k hk (fun e => hn e.symm)⟩
      exact (HKA1.out.trans k1 (fun k hk => Or.inl (Or.inr (Or.inr hk)))).trans (Keeps.of_only Oc (fun k => k = g) rfl) (fun k hk => Or.inl (Or.inl hk))
    have hat2 : (Value.slice A' (n + 1) c').ownBlock = (Value.slice A n c).ownBlock ∨ ∃ b, (Value.slice A' (n + 1) c').ownBlock = some b ∧ w.heap.size ≤ b := by
      rcases hat with h1 | h1
      · exact Or.inl h1
      · exact Or.inr ⟨_, h1, HKA1.out.size⟩
    go_end0
    exact ⟨rfl, A', c', Bgc, Mc, Owc, hat2, KC⟩
  · go_simp
    refine hK.out _ _ ⟨HBn1.out.cell rfl, HBn1.out.cell rfl⟩ (fun hHeld => ?_)
    clear hK K
    try simp only [Act.put, List.setIfInBounds_toArray, List.set_cons_zero, List.set_cons_succ]
    refine wpAnyH_ready (rs := [4]) (by kernel_rfl) (by simp) ?_
    refine AllReadyH.cons (o := _) rfl (fun K hK => ?_) AllReadyH.nil
    have c1 : (wa.alloc (.cells #[.int .i64 x.k, .int .i64 x.t] 86)).cell? ⟨g, 0, none⟩ = some (.slice A n c) := HBg1.out.cell rfl
    go_simp
    refine hK.out _ _ hHeld (fun hHeld => ?_)
    clear hK K
    try simp only [Act.put, List.setIfInBounds_toArray, List.set_cons_zero, List.set_cons_succ]
    refine wpAnyH_ready (rs := [7]) (by kernel_rfl) (by simp) ?_
    refine AllReadyH.cons (o := _) rfl (fun K hK => ?_) AllReadyH.nil
    refine step_app0 (by rfl) (.tmp 22) (.tmp 24) 75 (by rfl) 86 _ 2 16 (by kernel_rfl) infoA rfl (by decide) (.slice A n c) n (acells l) (by rfl) HO1.out (some ⟨_, 0, none⟩) 1 1 x.cells (by rfl) (rd_al wa.drew x _) (one_al x) (by unfold maxLen; omega) (by omega) ?_
    intro A' c' wb hown hgr hat
    have Bgb : BlkV wb g 79 [.slice A n c, .map (some gm), .int .i64 now] := (hgr.block g (by have := HBg1.out.lt; exact this) (fun e => HAs.out.1 e.symm)).trans HBg1.out
    have Bnb : BlkV wb w.heap.size 86 [.int .i64 x.k, .int .i64 x.t] := (hgr.block _ HBn1.out.lt (fun e => HAs.out.2.2 e.symm)).trans HBn1.out
    have Mb : MapE wb gm (es ++ [(x.k, (n : Int), ck)]) (ck + 1) := ⟨(hgr.block _ HMa1.out.lt (fun e => HAs.out.2.1 e.symm)).trans HMa1.out.blk, HMa1.out.ok⟩
    refine hK.out _ _ ⟨Bnb.cell rfl, Bnb.cell rfl⟩ (fun hHeld => ?_)
    clear hK K
    try simp only [Act.put, List.setIfInBounds_toArray, List.set_cons_zero, List.set_cons_succ]
    refine wpAnyH_takeD (i := 8) (some 26) (v := ?_) rfl rfl (by kernel_rfl) (by kernel_rfl) (by kernel_rfl) (fun _ _ _ h => h) (Or.inl ⟨by rfl, ?_⟩) (by assumption) ?_
    rotate_left
    · (intro w hSw; (try dsimp only at hSw); go_simp; try with_reducible rfl)
    try simp only [Act.put, List.setIfInBounds_toArray, List.set_cons_zero, List.set_cons_succ]
    refine wpAnyH_takeD (i := 9) (some 27) (v := ?_) rfl rfl (by kernel_rfl) (by kernel_rfl) (by kernel_rfl) (fun _ _ _ h => h) (Or.inl ⟨by rfl, ?_⟩) (by assumption) ?_
    rotate_left
    · (intro w hSw; (try dsimp only at hSw); go_simp; try with_reducible rfl)
    try simp only [Act.put, List.setIfInBounds_toArray, List.set_cons_zero, List.set_cons_succ]
    refine wpAnyH_ready (rs := [10]) (by kernel_rfl) (by simp) ?_
    refine AllReadyH.cons (o := _) rfl (fun K hK => ?_) AllReadyH.nil
    rw [if_pos (by rfl)]
    refine wp_stF 75 _ _ 0 (.slice A' (n + 1) c') rfl (by rfl) (by rfl) (by rfl) Bgb (by simp) (by kernel_rfl) rfl ?_
    intro wc Bgc Oc
    refine hK.out _ _ ⟨(Oc.cell HGG.out).trans hHeld.1, (Oc.cell HGG.out).trans hHeld.2⟩ (fun hHeld => ?_)
    clear hK K
    try simp only [Act.put, List.setIfInBounds_toArray, List.set_cons_zero, List.set_cons_succ]
    refine wpAnyH_done (by kernel_rfl) ?_ _
    have Mc : MapE wc gm (es ++ [(x.k, (n : Int), ck)]) (ck + 1) := ⟨(Oc.block gm (Ne.symm hmg)).trans Mb.blk, Mb.ok⟩
    have Owc := own_box hown Bgb (by decide) Oc
    rw [show acells l ++ x.cells = acells (l ++ [x]) by simp [acells]] at Owc
    have KC : Keeps (fun k => k = g ∨ k = gm ∨ (Value.slice A n c).ownBlock = some k) w wc := by
      have k1 : Keeps (fun k => (Value.slice A n c).ownBlock = some k) _ wb := ⟨hgr.os, hgr.tape, hgr.output, hgr.size, fun k hk hn => hgr.block k hk (fun e => hn e.symm)⟩
      exact (HKA1.out.trans k1 (fun k hk => Or.inl (Or.inr (Or.inr hk)))).trans (Keeps.of_only Oc (fun k => k = g) rfl) (fun k hk => Or.inl (Or.inl hk))
    have hat2 : (Value.slice A' (n + 1) c').ownBlock = (Value.slice A n c).ownBlock ∨ ∃ b, (Value.slice A' (n + 1) c').ownBlock = some b ∧ w.heap.size ≤ b := by
      rcases hat with h1 | h1
      · exact Or.inl h1
      · exact Or.inr ⟨_, h1, HKA1.out.size⟩
    go_end0
    exact ⟨rfl, A', c', Bgc, Mc, Owc, hat2, KC⟩
end Go.Proofs.Ytdboehogkmidbaa
