/- The walk of the alarms' Pop. -/
import Derived.Test.YtdboehogkmidbaaWhDown
namespace Go.Proofs.Ytdboehogkmidbaa
open Go.RowKit Go.MapKept Go.WideElems
open Go.ChangeMaps (setBlock)
set_option linter.unusedVariables false
set_option linter.unusedSimpArgs false
section
variable {P : Program} {w : World} {t k e : TypeId} {g : Nat} {es : List Mi.E} {c : Nat}
theorem MapE.del (h : MapE w g es c) (ht : P.underlying t = some (.map k e)) (hk : P.underlying k = some (.int .i64)) {q v : Int} (hg : Mi.get es q = some v) (ty : TypeId) :
    ∃ w', (Builtin.delete_ #[t, k] ty #[.map (some g), .int .i64 q]).run P w = .ok (.tuple #[]) w' ∧ MapE w' g (Mi.del es q) c ∧ OnlyB g w w' := by
  have hc : ∀ b : Bool, (Instr.checkKey b 10000 k (.int .i64 q)).run P w = .ok () w := fun b => run_checkKey (P := P) (w := w) (kt := k) (d := .int .i64) (k := .int .i64 q) hk (by simp [IsKey]) b 9999
  obtain ⟨pre, post, he, h1, h2⟩ := Mi.split h.ok hg
  have hf := run_findKey (P := P) (w := w) (kt := k) hk (Mi.findNow_some (k := q) (v := v) (b := Mi.born es q) (post := post) pre 0 h1)
  rw [← he] at hf
  rw [Nat.zero_add] at hf
  have hd : Mi.del es q = pre ++ post := by
    obtain ⟨bb, hbb⟩ : ∃ bb, bb = Mi.born es q := ⟨_, rfl⟩
    rw [← hbb] at he
    rw [he]
    unfold Mi.del
    rw [List.filter_append, List.filter_cons]
    simp only [bne_self_eq_false, Bool.false_eq_true, if_false]
    rw [List.filter_eq_self.2 (fun a ha => by simpa using h1 a ha), List.filter_eq_self.2 (fun a ha => by simpa using h2 a ha)]
  have hel : (es.map Mi.toE).eraseIdx pre.length = (Mi.del es q).map Mi.toE := by
    rw [hd]
    obtain ⟨bb, hbb⟩ : ∃ bb, bb = Mi.born es q := ⟨_, rfl⟩
    rw [← hbb] at he
    conv => lhs; rw [he]
    rw [List.map_append, List.map_cons, List.eraseIdx_append_of_length_le (by simp)]
    simp
  refine ⟨setBlock w g (.map ((Mi.del es q).map Mi.toE).toArray c), ?_, ⟨heap_setBlock h.blk, h.ok.del q⟩, onlyB_setBlock h.blk⟩
  simp [Builtin.delete_, run_underlying ht, MapKept.run_getObj_map h.blk, hc, hf, Result.andThen, hel, MapKept.run_setObj_map _ h.blk, setBlock]
end
theorem wp_delete {P : Program} {w : World} {t k e : TypeId} {g : Nat} {es : List Mi.E} {c : Nat} {op : Oper} {a : Act} {K : Act → World → Prop} {Q : Exit → Act → World → Prop} (m x : Operand) (ho : op.op = .call { callee := .builtin .delete, args := #[m, x], argTypes := #[t, k] }) (hd : op.dst = none) (ht : P.underlying t = some (.map k e)) (hk : P.underlying k = some (.int .i64)) (hm : a.eval m = .map (some g)) {q v : Int} (hx : a.eval x = .int .i64 q) (h : MapE w g es c) (hg : Mi.get es q = some v)
    (hK : ∀ w', MapE w' g (Mi.del es q) c → OnlyB g w w' → K a w') : op.wp P a w K Q := by
  obtain ⟨w', hrun, h1, h2⟩ := h.del ht hk hg op.type
  unfold Oper.wp execOp
  simp only [ho, resolve, invoke, builtin, Sem.run_bind, Sem.run_pure, Result.andThen_ok, List.map_toArray, List.map_cons, List.map_nil, hm, hx, hrun]
  have : K (a.put op.dst (.tuple #[])) w' := by rw [hd]; exact hK w' h1 h2
  exact this
set_option maxRecDepth 8000 in
set_option maxHeartbeats 8000000 in
theorem apop_spec (g gr gm : Nat) (n c : Nat) (x : Wh.Al) (es : List Mi.E) (ck : Nat) (now v : Int) (w : World) (hB : BlkV w g 79 [.slice (some ⟨gr, 0, none⟩) (n + 1) c, .map (some gm), .int .i64 now])
    (hrg : gr ≠ g) (hmg : g ≠ gm) (hM : MapE w gm es ck) (hn : n ≤ 1000) (hnc : n + 1 ≤ c)
    (x0 : w.cell? ⟨gr, n * 2, none⟩ = some (.int .i64 x.k)) (x1 : w.cell? ⟨gr, n * 2 + 1, none⟩ = some (.int .i64 x.t)) (hrs : gr < w.heap.size) (hk : Mi.get es x.k = some v) :
    Calls Try.prog 62 #[.pointer (some ⟨g, 0, none⟩)] w fun e w' => e = .returned (.iface 86 (.agg #[.int .i64 x.k, .int .i64 x.t])) ∧
      BlkV w' g 79 [.slice (some ⟨gr, 0, none⟩) n c, .map (some gm), .int .i64 now] ∧ MapE w' gm (Mi.del es x.k) ck ∧ Keeps (fun k => k = g ∨ k = gm) w w' := by
  have c0 : w.cell? ⟨g, 0, none⟩ = some (.slice (some ⟨gr, 0, none⟩) (n + 1) c) := hB.cell rfl
  have c1 : w.cell? ⟨g, 1, none⟩ = some (.map (some gm)) := hB.cell rfl
  have hlt := hB.lt
  have hfr := hB.unfrozen 0
  obtain ⟨V, hV⟩ : ∃ V, V = (w.setCell ⟨g, 0, none⟩ (.slice (some ⟨gr, 0, none⟩) n c)).alloc (.cells #[.int .i64 x.k, .int .i64 x.t] 86) := ⟨_, rfl⟩
  have OV := OnlyB.set w g 0 (.slice (some ⟨gr, 0, none⟩) n c)
  have aV : Below (w.setCell ⟨g, 0, none⟩ (.slice (some ⟨gr, 0, none⟩) n c)).heap.size (w.setCell ⟨g, 0, none⟩ (.slice (some ⟨gr, 0, none⟩) n c)) V := by rw [hV]; exact (Below.refl _ _).alloc (Nat.le_refl _) _
  have BV : BlkV V g 79 [.slice (some ⟨gr, 0, none⟩) n c, .map (some gm), .int .i64 now] := by rw [hV]; exact (hB.put 0 _).alloc _
  have BN : BlkV V w.heap.size 86 [.int .i64 x.k, .int .i64 x.t] := by rw [hV]; exact BlkV.new_at _ _ _ (by simp)
  have MV : MapE V gm es ck := by
    have m1 : MapE (w.setCell ⟨g, 0, none⟩ (.slice (some ⟨gr, 0, none⟩) n c)) gm es ck := ⟨(OV.block gm (Ne.symm hmg)).trans hM.blk, hM.ok⟩
    exact ⟨(aV.block _ m1.lt).trans m1.blk, hM.ok⟩
  have KV : Keeps (fun k => k = g ∨ k = gm) w V := (Keeps.of_only OV _ (Or.inl rfl)).trans (Keeps.of_below aV _) (fun k hk => Or.inl hk)
  have hgn : w.heap.size ≠ gm := by have := hM.lt; omega
  have HV := Lib.hid hV
  have HBV := Lib.hid BV
  have HBN := Lib.hid BN
  have HMV := Lib.hid MV
  have HKV := Lib.hid KV
  have HK := Lib.hid hk
  clear hV hB hM hk OV aV BV BN MV KV
  go_enter Try.func62, Try.ntmps62
  go_wp2_with fail
  rw [← HV.out]
  clear c0 c1 hlt hfr x0 x1 hrs HV
  refine wp_region_held_drew (S := fun w' => (w'.cell? ⟨g, 1, none⟩ = some (.map (some gm)) ∧ w'.cell? ⟨w.heap.size, 0, none⟩ = some (.int .i64 x.k))) (by kernel_rfl) ⟨HBV.out.cell rfl, HBN.out.cell rfl⟩ (fun hHeld => ?_)
  refine wpAnyH_takeD (i := 0) (some 27) (v := ?_) rfl rfl (by kernel_rfl) (by kernel_rfl) (by kernel_rfl) (fun _ _ _ h => h) (Or.inl ⟨by rfl, ?_⟩) (by assumption) ?_
  rotate_left
  · (intro w hSw; (try dsimp only at hSw); go_simp; try with_reducible rfl)
  try simp only [Act.put, List.setIfInBounds_toArray, List.set_cons_zero, List.set_cons_succ]
  refine wpAnyH_takeD (i := 1) (some 28) (v := ?_) rfl rfl (by kernel_rfl) (by kernel_rfl) (by kernel_rfl) (fun _ _ _ h => h) (Or.inl ⟨by rfl, ?_⟩) (by assumption) ?_
  rotate_left
  · (intro w hSw; (try dsimp only at hSw); go_simp; try with_reducible rfl)
  try simp only [Act.put, List.setIfInBounds_toArray, List.set_cons_zero, List.set_cons_succ]
  refine wpAnyH_takeD (i := 2) (some 29) (v := ?_) rfl rfl (by kernel_rfl) (by kernel_rfl) (by kernel_rfl) (fun _ _ _ h => h) (Or.inl ⟨by rfl, ?_⟩) (by assumption) ?_
  rotate_left
  · (intro w hSw; (try dsimp only at hSw); go_simp; try with_reducible rfl)
  try simp only [Act.put, List.setIfInBounds_toArray, List.set_cons_zero, List.set_cons_succ]
  refine wpAnyH_takeD (i := 3) (some 30) (v := ?_) rfl rfl (by kernel_rfl) (by kernel_rfl) (by kernel_rfl) (fun _ _ _ h => h) (Or.inl ⟨by rfl, ?_⟩) (by assumption) ?_
  rotate_left
  · (intro w hSw; (try dsimp only at hSw); go_simp; try with_reducible rfl)
  try simp only [Act.put, List.setIfInBounds_toArray, List.set_cons_zero, List.set_cons_succ]
  refine wpAnyH_takeD (i := 4) (some 31) (v := ?_) rfl rfl (by kernel_rfl) (by kernel_rfl) (by kernel_rfl) (fun _ _ _ h => h) (Or.inl ⟨by rfl, ?_⟩) (by assumption) ?_
  rotate_left
  · (intro w hSw; (try dsimp only at hSw); go_simp; try with_reducible rfl)
  try simp only [Act.put, List.setIfInBounds_toArray, List.set_cons_zero, List.set_cons_succ]
  refine wpAnyH_takeD (i := 5) (some 32) (v := ?_) rfl rfl (by kernel_rfl) (by kernel_rfl) (by kernel_rfl) (fun _ _ _ h => h) (Or.inl ⟨by rfl, ?_⟩) (by assumption) ?_
  rotate_left
  · (intro w hSw; (try dsimp only at hSw); go_simp; try with_reducible rfl)
  try simp only [Act.put, List.setIfInBounds_toArray, List.set_cons_zero, List.set_cons_succ]
  refine wpAnyH_ready (rs := [6]) (by kernel_rfl) (by simp) ?_
  refine AllReadyH.cons (o := _) rfl (fun K hK => ?_) AllReadyH.nil
  rw [if_pos (by rfl)]
  refine wp_delete (k := 3) (e := 3) (g := gm) (es := es) (c := ck) (q := x.k) (v := v) (w := V.drew) _ _ rfl rfl (by kernel_rfl) (by kernel_rfl) rfl rfl (show MapE V.drew gm es ck from ⟨HMV.out.blk, HMV.out.ok⟩) HK.out ?_
  intro wa Ma Oa
  refine hK.out _ _ ⟨(Oa.cell hmg).trans hHeld.1, (Oa.cell hgn).trans hHeld.2⟩ (fun hHeld => ?_)
  clear hK K
  try simp only [Act.put, List.setIfInBounds_toArray, List.set_cons_zero, List.set_cons_succ]
  refine wpAnyH_done (by kernel_rfl) ?_ _
  have Bg := (show BlkV V.drew g _ _ from HBV.out).only Oa hmg
  have Bn := (show BlkV V.drew w.heap.size _ _ from HBN.out).only Oa hgn
  have KD : Keeps (fun k => k = g ∨ k = gm) w wa := by
    refine HKV.out.trans ?_ (fun k hk => Or.inl hk)
    have k1 : Keeps (fun k => k = g ∨ k = gm) V V.drew := Keeps.of_below (bel_d (Below.refl _ V)) _
    exact k1.trans (Keeps.of_only Oa _ (Or.inr rfl)) (fun k hk => Or.inl hk)
  have d0 : wa.cell? ⟨w.heap.size, 0, none⟩ = some (.int .i64 x.k) := Bn.cell rfl
  have d1 : wa.cell? ⟨w.heap.size, 1, none⟩ = some (.int .i64 x.t) := Bn.cell rfl
  have HMa := Lib.hid Ma
  have HBg := Lib.hid Bg
  have HKD := Lib.hid KD
  clear Ma Oa Bg Bn KD hHeld
  go_wp2_with fail
  go_ret
  exact ⟨rfl, HBg.out, HMa.out, HKD.out⟩
theorem al_take {l : List Wh.Al} {n i : Nat} (hi : i < n) : Wh.al (l.take n) i = Wh.al l i := by
  unfold Wh.al
  rw [List.getD_eq_getElem?_getD, List.getElem?_take_of_lt hi, List.getD_eq_getElem?_getD]
theorem pl_pop {es : List Mi.E} {l : List Wh.Al} {n : Nat} (h : (l.map (·.k)).Nodup) (hn : l.length = n + 1) (hp : ∀ k, Mi.get es k = (Wh.place l k).map (fun i => (i : Int))) (k : Int) :
    Mi.get (Mi.del es (Wh.al l n).k) k = (Wh.place (l.take n) k).map (fun i => (i : Int)) := by
  have hd : ((l.take n).map (·.k)).Nodup := ((List.take_sublist n l).map _).nodup h
  have hl : (l.take n).length = n := by rw [List.length_take]; omega
  rw [Mi.get_del]
  by_cases hk : k = (Wh.al l n).k
  · rw [if_pos hk]
    cases hq : Wh.place (l.take n) k with
    | none => rfl
    | some p =>
      obtain ⟨h1, h2⟩ := Wh.place_some hq
      rw [hl] at h1
      rw [al_take h1] at h2
      have := Wh.nodup_at h (show p < l.length by omega) (show n < l.length by omega) (h2.trans hk)
      omega
  · rw [if_neg hk, hp]
    suffices e : Wh.place l k = Wh.place (l.take n) k by rw [e]
    apply Option.ext
    intro p
    rw [Wh.place_iff h, Wh.place_iff hd, hl]
    constructor
    · rintro ⟨h1, h2⟩
      have hpn : p < n := by
        rcases Nat.lt_or_ge p n with h3 | h3
        · exact h3
        · exact absurd (by rw [← h2, show p = n by omega]) hk
      exact ⟨hpn, by rw [al_take hpn]; exact h2⟩
    · rintro ⟨h1, h2⟩
      rw [al_take h1] at h2
      exact ⟨by omega, h2⟩
theorem acells_take (l : List Wh.Al) (n : Nat) : (acells l).take (n * 2) = acells (l.take n) := by
  rcases Nat.lt_or_ge n l.length with h | h
  · conv => lhs; rw [← List.take_append_drop n l, acells_app]
    have hl : (acells (l.take n)).length = n * 2 := by rw [acells_len, List.length_take]; omega
    rw [← hl, List.take_left]
  · rw [List.take_of_length_le (by rw [acells_len]; omega), List.take_of_length_le h]
theorem WM.pop_wm {w : World} {L : Loc} {c : Nat} {es : List Mi.E} {ck : Nat} {l : List Wh.Al} {now : Int} (h : WM w L c es ck l now) {n : Nat} (hn : l.length = n + 1) :
    Calls Try.prog 62 #[.pointer (some ⟨L.gw, 0, none⟩)] w fun e w' => e = .returned (.iface 86 (.agg #[.int .i64 (Wh.al l n).k, .int .i64 (Wh.al l n).t])) ∧ Wgo w L (l.take n) now w' := by
  obtain ⟨gr, rest, hg, hR, h1, h2, h3⟩ := h.arow (by omega)
  have hA : L.A = some ⟨gr, 0, none⟩ := by unfold Loc.A; rw [hg]; rfl
  have hB := h.box
  rw [hA, hn] at hB
  have hs := h.sm
  have hrw := hR.ne_box h.box
  have hrm := hR.ne_map h.map
  have hwm := h.wm
  obtain ⟨x0, x1⟩ := hR.cells (show n < l.length by omega)
  obtain ⟨v, hv⟩ := h.has (show n < l.length by omega)
  refine (apop_spec L.gw gr L.gm n c (Wh.al l n) es ck now v w hB hrw hwm h.map (by omega) (by omega) x0 x1 hR.blk.lt hv).mono ?_
  rintro e w' ⟨rfl, hB', hM', hK⟩
  have hl : (l.take n).length = n := by rw [List.length_take]; omega
  have hR2 : ARow w' gr (l.take n) (acells (l.drop n) ++ rest) := ⟨by
    have : BlkV w' gr 86 (acells l ++ rest) := (hK.block _ hR.blk.lt (fun e => by rcases e with e | e; exact hrw e; exact hrm e)).trans hR.blk
    refine this.fit ?_
    rw [← List.append_assoc, ← acells_app, List.take_append_drop]⟩
  refine ⟨rfl, L, c, _, _, ⟨?_, ?_, hM', ((List.take_sublist n l).map _).nodup h.dist, pl_pop h.dist hn h.pl, by rw [hl]; omega⟩, ⟨rfl, rfl, fun g hg => Or.inl hg, ?_⟩⟩
  · rw [hA, hl]; exact hB'
  · rw [hA]
    refine hR2.owns (by rw [hl]; omega) h2 ?_
    rw [List.length_append, acells_len, List.length_drop, hl, h3, hn]
    omega
  · exact ⟨hK.os, hK.tape, hK.out, hK.size, fun k hk hn => hK.block k hk (fun e => hn (by
      rcases e with e | e
      · exact Or.inl e
      · exact Or.inr (Or.inl e)))⟩
end Go.Proofs.Ytdboehogkmidbaa
