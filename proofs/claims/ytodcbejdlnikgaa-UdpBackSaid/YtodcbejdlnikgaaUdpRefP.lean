/- The walk of the reference's Parse of udp. -/
import Derived.Test.YtodcbejdlnikgaaUdpRef
namespace Go.Proofs.Ytodcbejdlnikgaa
open Go.RowKit
set_option linter.unusedVariables false
attribute [local go_sem] u64_low16 u32_low16 u16_not u16_signed u64_of_u16 i64_join
/-- append inside a region that draws, onto the empty literal just laid. -/
theorem step_app0 {P : Program} (w : World) {ops : Array Oper} {o : Oper} {a : Act} {K : Act → World → Prop} {Q : Exit → Act → World → Prop} {E : Prop} (hgd : o.guard = none) (s x : Operand) (t : TypeId)
    (ho : o.op = .call { callee := .builtin .append, args := #[s, x], argTypes := #[t, t] })
    (a0 : World) (hbel : Below a0.heap.size a0 w) (e : TypeId) (z : Value) (size bytes : Nat) (ht : P.underlying t = some (.slice e))
    (hinfo : (P.info? e).map (fun i => (i.zero, i.size, i.bytes)) = some (some z, size, bytes)) (hzs : z.cells.size = size) (hsz : 0 < size)
    (g : Nat) (hs : a.eval s = .slice (some ⟨g, 0, none⟩) 0 0) (hown : w.ownsRow a0.heap.size e size (.slice (some ⟨g, 0, none⟩) 0 0) 0 [])
    (A : Option Addr) (m c : Nat) (news : List Value) (hx : a.eval x = .slice A m c) (hr : Rd w size A m news) (h1 : ∀ u ∈ news, u.oneCell' = true)
    (h63 : m ≤ maxLen) (hbytes : m * bytes ≤ 140737488355328)
    (h : ∀ A' c' w', w'.ownsRow a0.heap.size e size (.slice A' m c') m news → Below a0.heap.size a0 w' → w.grownBy w' (some g) → K (a.put o.dst (.slice A' m c')) w') :
    if Region.wanted o (yielded ops a.tmps) = true then Oper.wp P o a w K Q else E := by
  have hw : Region.wanted o (yielded ops a.tmps) = true := by simp [Region.wanted, hgd]
  rw [if_pos hw]
  obtain ⟨i, hi, hz, hsize, hby⟩ := info_parts hinfo
  obtain ⟨A', c', w', hrun, h2, h3, h4⟩ := run_append_rd (P := P) w a0.heap.size t o.type e i z size bytes ht hi hz hsize hby hzs hsz _ 0 [] hown A m c news hr h1 (by omega) (by simpa using hbytes) hbel.size
  unfold Oper.wp execOp
  simp only [ho, resolve, invoke, builtin, Sem.run_bind, Sem.run_pure, Result.andThen_ok, List.map_toArray, List.map_cons, List.map_nil, hs, hx, hrun]
  simp only [Nat.zero_add, List.nil_append] at h2 ⊢
  exact h A' c' w' h2 (hbel.grown h3 hbel.size (fun g hg => (hown.lt g hg).1)) h3
set_option maxHeartbeats 1000000 in
theorem rudp_parse_short (A : Option Addr) (n c : Nat) (l : List Int) (s d : Int) (w : World) (hn : n < 8) (hl : l.length = n) :
    Calls Try.prog 26 #[.int .u32 s, .int .u32 d, .slice A n c] w (ParseR w (Udp.parse s d l)) := by
  have hp : Udp.parse s d l = ⟨2, 0, 0, false, []⟩ := by unfold Udp.parse; rw [if_pos (by omega)]
  rw [hp]
  clear hp hl
  go_enter Try.func26, Try.ntmps26
  go_wp2
  refine bodyPost_ret (v := .tuple #[.agg #[.int .i64 0, .int .i64 0, .bool false, .slice none 0 0], .int .i64 2]) (by simp [results, Try.results26, go_sem]) rfl ⟨none, 0, rfl, Rd.nil_ _, ?_⟩
  exact ((Below.refl _ _).alloc (Nat.le_refl _) _)
theorem cell_far4 (w : World) (g : Nat) (a b c d : Value) (p : Addr) (h : p.block ≠ g) :
    ((((w.setCell ⟨g, 0, none⟩ a).setCell ⟨g, 1, none⟩ b).setCell ⟨g, 2, none⟩ c).setCell ⟨g, 3, none⟩ d).cell? p = w.cell? p := by
  have e : ∀ (W : World) (i : Nat) (u : Value), (W.setCell ⟨g, i, none⟩ u).cell? p = W.cell? p := fun W i u => World.cell?_of_block (Below.heap_setCell W _ u p.block h)
  rw [e, e, e, e]
theorem words_eight (x0 x1 x2 x3 x4 x5 x6 x7 : Int) : Csum.words [x0, x1, x2, x3, x4, x5, x6, x7] = [256 * x0 + x1, 256 * x2 + x3, 256 * x4 + x5, 256 * x6 + x7] := rfl
set_option maxHeartbeats 6000000 in
theorem rudp_parse_nosum (b off n c : Nat) (l : List Int) (s d : Int) (w : World) (hR : Rd w 1 (some ⟨b, off, none⟩) n (bs l)) (hB : isB l) (hn : 8 ≤ n) (hnc : n ≤ c) (hn2 : n ≤ 140737488355327)
    (hs0 : 0 ≤ s) (hs1 : s ≤ 4294967295) (hd0 : 0 ≤ d) (hd1 : d ≤ 4294967295) (hk0 : (Udp.size l < 8 ∨ (l.length : Int) < Udp.size l) ∨ Udp.ck l = 0) :
    Calls Try.prog 26 #[.int .u32 s, .int .u32 d, .slice (some ⟨b, off, none⟩) n c] w (ParseR w (Udp.parse s d l)) := by
  have hl := hR.blen
  have cell : ∀ k, k < 8 → ∃ x, 0 ≤ x ∧ x ≤ 255 ∧ Hid (l.getD k 0 = x) := by
    intro k hk
    have hm : l[k] ∈ l := List.getElem_mem (h := by omega)
    have := hB _ hm
    refine ⟨l[k], this.1, this.2, ?_⟩
    show l.getD k 0 = l[k]
    rw [List.getD_eq_getElem?_getD, List.getElem?_eq_getElem (by omega)]; rfl
  obtain ⟨x0, p0, q0, g0⟩ := cell 0 (by omega)
  obtain ⟨x1, p1, q1, g1⟩ := cell 1 (by omega)
  obtain ⟨x2, p2, q2, g2⟩ := cell 2 (by omega)
  obtain ⟨x3, p3, q3, g3⟩ := cell 3 (by omega)
  obtain ⟨x4, p4, q4, g4⟩ := cell 4 (by omega)
  obtain ⟨x5, p5, q5, g5⟩ := cell 5 (by omega)
  obtain ⟨x6, p6, q6, g6⟩ := cell 6 (by omega)
  obtain ⟨x7, p7, q7, g7⟩ := cell 7 (by omega)
  have hsz : Udp.size l = x4 * 256 + x5 := by unfold Udp.size; rw [g4.out, g5.out]
  have hck : Udp.ck l = x6 * 256 + x7 := by unfold Udp.ck; rw [g6.out, g7.out]
  have htk : l.take 8 = [x0, x1, x2, x3, x4, x5, x6, x7] := by
    rw [← g0.out, ← g1.out, ← g2.out, ← g3.out, ← g4.out, ← g5.out, ← g6.out, ← g7.out]
    rcases l with _ | ⟨b0, _ | ⟨b1, _ | ⟨b2, _ | ⟨b3, _ | ⟨b4, _ | ⟨b5, _ | ⟨b6, _ | ⟨b7, r⟩⟩⟩⟩⟩⟩⟩⟩
    any_goals (exfalso; simp at hl; omega)
    rfl
  have hw8 : Csum.words (l.take 8) = [256 * x0 + x1, 256 * x2 + x3, 256 * x4 + x5, 256 * x6 + x7] := by rw [htk]; rfl
  have hbw : Below w.heap.size w (w.alloc (.cells #[.int .i64 0, .int .i64 0, .bool false, .slice none 0 0] 37)) := (Below.refl _ _).alloc (Nat.le_refl _) _
  have hRb := hR.below hbw
  have hR8 := hRb.btake (m := 8) (by omega)
  have hB8 := hB.take 8
  have HW := Lib.hid hw8
  clear cell htk hw8
  have hn8 : (8 : Int) ≤ (n : Int) := by omega
  have hc8 : (8 : Int) ≤ (c : Int) := by omega
  go_enter Try.func26, Try.ntmps26
  go_wp2_with fail
  refine (rcsum_words _ _ _ _ _ hR8 hB8 (by omega)).mono ?_
  rintro e w1 ⟨A1, c1, rfl, hown1, hb1⟩
  rw [HW.out] at hown1 ⊢
  simp only [List.map_cons, List.map_nil, List.length_cons, List.length_nil, Nat.zero_add, Nat.reduceAdd] at hown1 ⊢
  obtain ⟨gw, rfl, hg1, hgw⟩ := own_head hown1 (by omega)
  have k0 : w1.cell? ⟨gw, 0, none⟩ = some (.int .u16 (256 * x0 + x1)) := by rw [hown1.cellAt 0 (by omega)]; rfl
  have k1 : w1.cell? ⟨gw, 1, none⟩ = some (.int .u16 (256 * x2 + x3)) := by rw [hown1.cellAt 1 (by omega)]; rfl
  have k2 : w1.cell? ⟨gw, 2, none⟩ = some (.int .u16 (256 * x4 + x5)) := by rw [hown1.cellAt 2 (by omega)]; rfl
  have k3 : w1.cell? ⟨gw, 3, none⟩ = some (.int .u16 (256 * x6 + x7)) := by rw [hown1.cellAt 3 (by omega)]; rfl
  have c0 : w1.cell? ⟨w.heap.size, 0, none⟩ = some (.int .i64 0) := (hb1.cell (by simp)).trans (by rw [box_cell]; rfl)
  have c1' : w1.cell? ⟨w.heap.size, 1, none⟩ = some (.int .i64 0) := (hb1.cell (by simp)).trans (by rw [box_cell]; rfl)
  have c2 : w1.cell? ⟨w.heap.size, 2, none⟩ = some (.bool false) := (hb1.cell (by simp)).trans (by rw [box_cell]; rfl)
  have c3 : w1.cell? ⟨w.heap.size, 3, none⟩ = some (.slice none 0 0) := (hb1.cell (by simp)).trans (by rw [box_cell]; rfl)
  have f0 : w1.frozen? ⟨w.heap.size, 0, none⟩ = false := (hb1.frozen (by simp)).trans (frozen_of_row _ _ 0 _ _ (heap_alloc_new w _))
  have f1 : w1.frozen? ⟨w.heap.size, 1, none⟩ = false := (hb1.frozen (by simp)).trans (frozen_of_row _ _ 1 _ _ (heap_alloc_new w _))
  have f2 : w1.frozen? ⟨w.heap.size, 2, none⟩ = false := (hb1.frozen (by simp)).trans (frozen_of_row _ _ 2 _ _ (heap_alloc_new w _))
  have f3 : w1.frozen? ⟨w.heap.size, 3, none⟩ = false := (hb1.frozen (by simp)).trans (frozen_of_row _ _ 3 _ _ (heap_alloc_new w _))
  have hRw := hRb.below hb1
  have hbw1 := bel_then hbw hb1
  have hlw := World.block_lt_of_cell? _ _ c0
  have hfin : ∀ (g : Udp.Got) (A : Option Addr) (n' c' : Nat) (w' : World), Udp.parse s d l = g → g.body.length = n' → Rd w' 1 A n' (bs g.body) → Below w.heap.size w w' →
      ParseR w (Udp.parse s d l) (.returned (.tuple #[.agg #[.int .i64 g.sp, .int .i64 g.dp, .bool g.ns, .slice A n' c'], .int .i64 g.err])) w' := by
    rintro g A n' c' w' rfl rfl h1 h2; exact ⟨A, c', rfl, h1, h2⟩
  have HF := Lib.hid hfin
  have HO := Lib.hid hown1
  have HSZ := Lib.hid hsz
  have HCK := Lib.hid hck
  clear hfin hown1 hR hRb hR8 hB8 hsz hck hl
  by_cases hs1' : x4 * 256 + x5 < 8 ∨ (n : Int) < x4 * 256 + x5
  · have hp : Udp.parse s d l = ⟨4, 0, 0, false, []⟩ := by unfold Udp.parse; rw [if_neg (by have := hRw.blen; omega), HSZ.out, if_pos (by have := hRw.blen; omega)]
    have HP := Lib.hid hp
    clear hp hRw
    rcases hs1' with hs1' | hs1'
    · have hs2' : 256 * x4 + x5 < 8 := by omega
      go_wp2
      refine bodyPost_ret (v := .tuple #[.agg #[.int .i64 0, .int .i64 0, .bool false, .slice none 0 0], .int .i64 4]) (by simp [results, Try.results26, go_sem, c0, c1', c2, c3]) rfl (HF.out ⟨4, 0, 0, false, []⟩ none 0 0 _ HP.out rfl (Rd.nil_ _) ?_)
      exact ((((hbw1).setCell (Nat.le_refl _) _).setCell (Nat.le_refl _) _).setCell (Nat.le_refl _) _).setCell (Nat.le_refl _) _
    · have hs2' : ¬ 256 * x4 + x5 < 8 := by omega
      have hs3' : (n : Int) < 256 * x4 + x5 := by omega
      go_wp2
      refine bodyPost_ret (v := .tuple #[.agg #[.int .i64 0, .int .i64 0, .bool false, .slice none 0 0], .int .i64 4]) (by simp [results, Try.results26, go_sem, c0, c1', c2, c3]) rfl (HF.out ⟨4, 0, 0, false, []⟩ none 0 0 _ HP.out rfl (Rd.nil_ _) ?_)
      exact ((((hbw1).setCell (Nat.le_refl _) _).setCell (Nat.le_refl _) _).setCell (Nat.le_refl _) _).setCell (Nat.le_refl _) _
  · obtain ⟨m, hm⟩ : ∃ m : Nat, 256 * x4 + x5 = (m : Int) := ⟨(256 * x4 + x5).toNat, by omega⟩
    have hz0 : 8 ≤ m := by omega
    have hz1 : m ≤ n := by omega
    have hz2 : (8 : Int) ≤ (m : Int) := by omega
    have hmc : (m : Int) ≤ (c : Int) := by omega
    have hRm := hRw.btake hz1
    have hBm := hB.take m
    have hRd := (hRw.bdrop 8 (m - 8) (by omega))
    have hbody : (l.take m).drop 8 = (l.drop 8).take (m - 8) := by rw [List.drop_take]
    have hl := hRw.blen
    have hsz : Udp.size l = (m : Int) := by rw [HSZ.out]; omega
    have hblen : ((l.drop 8).take (m - 8)).length = m - 8 := by simp; omega
    have HB := Lib.hid hblen
    have hne : gw ≠ w.heap.size := by simp at hg1; omega
    have v0 : IntKind.i64.wrap (256 * x0 + x1) = 256 * x0 + x1 := IntWalk.i64_in _ (by omega)
    have v1 : IntKind.i64.wrap (256 * x2 + x3) = 256 * x2 + x3 := IntWalk.i64_in _ (by omega)
    have KK := Lib.hid (And.intro k0 (And.intro k1 k3))
    have hk : x6 * 256 + x7 = 0 := by
      rcases hk0 with h | h
      · rw [hsz, hl] at h; omega
      · rw [← HCK.out]; exact h
    · have hp : Udp.parse s d l = ⟨0, 256 * x0 + x1, 256 * x2 + x3, true, (l.drop 8).take (m - 8)⟩ := by
        rw [show 256 * x0 + x1 = x0 * 256 + x1 by omega, show 256 * x2 + x3 = x2 * 256 + x3 by omega]
        unfold Udp.parse
        rw [if_neg (by omega), hsz, if_neg (by omega), HCK.out, hk, if_neg (by simp), g0.out, g1.out, g2.out, g3.out]
        simp [hbody]
      have hk1 : ¬ 0 < 256 * x6 + x7 := by omega
      have hk2 : (256 * x6 + x7 == 0) = true := by rw [beq_iff_eq]; omega
      have HP := Lib.hid hp
      clear hp hblen hbody hsz hl hs1' hRm hRw hk
      by_cases hc8 : c = 8
      · obtain rfl : m = 8 := by omega
        obtain rfl : n = 8 := by omega
        subst hc8
        simp only [Nat.sub_self, List.take_zero] at HP HB hRd
        clear hRd
        go_wp2_with fail
        go_region_held3 (fun w' => w'.cell? ⟨gw, 0, none⟩ = some (.int .u16 (256 * x0 + x1)) ∧ w'.cell? ⟨gw, 1, none⟩ = some (.int .u16 (256 * x2 + x3)) ∧ w'.cell? ⟨gw, 3, none⟩ = some (.int .u16 (256 * x6 + x7)))
          (first
          | exact ⟨KK.out.1, KK.out.2.1, KK.out.2.2⟩
          | go_keep
          | exact ⟨(hbn.cell (p := ⟨gw, 0, none⟩) hgw).trans KK.out.1, (hbn.cell (p := ⟨gw, 1, none⟩) hgw).trans KK.out.2.1, (hbn.cell (p := ⟨gw, 3, none⟩) hgw).trans KK.out.2.2⟩
              | exact ⟨(cell_far4 _ _ _ _ _ _ ⟨gw, 0, none⟩ hne).trans ((hbn.cell (p := ⟨gw, 0, none⟩) hgw).trans KK.out.1), (cell_far4 _ _ _ _ _ _ ⟨gw, 1, none⟩ hne).trans ((hbn.cell (p := ⟨gw, 1, none⟩) hgw).trans KK.out.2.1), (cell_far4 _ _ _ _ _ _ ⟨gw, 3, none⟩ hne).trans ((hbn.cell (p := ⟨gw, 3, none⟩) hgw).trans KK.out.2.2)⟩)
          ((refine step_app0 _ (by rfl) (.tmp 56) (.tmp 59) 22 (by rfl) w1 (by exact (by repeat (first | exact Below.refl _ _ | exact Nat.le_refl _ | refine below_drewN ?_ _ | refine Below.setCell ?_ ?_ _ | refine Below.alloc ?_ ?_ _ | (simp; done)))) 5 (.int .u8 0) 1 1 Try.underlying22 info_u8 rfl (by decide) w1.heap.size (by rfl) (by exact rd_own w1 _ [] #[] 0 w1.heap.size rfl rfl (by omega) rfl _ (Nat.le_refl _)) (some ⟨b, off, none⟩) 0 0 (bs []) (by rfl) (by exact Rd.nil_ _) (one_bs _) (by unfold maxLen; omega) (by omega) ?_; intro An cn wn hownn hbn hgn; have z0 := (hbn.cell (p := ⟨w.heap.size, 0, none⟩) hlw).trans c0; have zf0 := (hbn.frozen (p := ⟨w.heap.size, 0, none⟩) hlw).trans f0; have z1 := (hbn.cell (p := ⟨w.heap.size, 1, none⟩) hlw).trans c1'; have zf1 := (hbn.frozen (p := ⟨w.heap.size, 1, none⟩) hlw).trans f1; have z2 := (hbn.cell (p := ⟨w.heap.size, 2, none⟩) hlw).trans c2; have zf2 := (hbn.frozen (p := ⟨w.heap.size, 2, none⟩) hlw).trans f2; have z3 := (hbn.cell (p := ⟨w.heap.size, 3, none⟩) hlw).trans c3; have zf3 := (hbn.frozen (p := ⟨w.heap.size, 3, none⟩) hlw).trans f3))
        go_wp2
        refine bodyPost_ret (v := .tuple #[.agg #[.int .i64 (256 * x0 + x1), .int .i64 (256 * x2 + x3), .bool true, .slice An 0 cn], .int .i64 0]) (by simp [results, Try.results26, go_sem, z0, z1, z2, z3]) rfl (HF.out ⟨0, _, _, _, _⟩ An 0 cn _ HP.out HB.out (Rd.of_own (ownsRow_setCell_below (ownsRow_setCell_below (ownsRow_setCell_below (ownsRow_setCell_below hownn (a := ⟨w.heap.size, 0, none⟩) hlw (.int .i64 (256 * x0 + x1))) (a := ⟨w.heap.size, 1, none⟩) hlw (.int .i64 (256 * x2 + x3))) (a := ⟨w.heap.size, 2, none⟩) hlw (.bool true)) (a := ⟨w.heap.size, 3, none⟩) hlw (.slice An _ cn))) ?_)
        exact ((((bel_then hbw1 hbn).setCell (Nat.le_refl _) _).setCell (Nat.le_refl _) _).setCell (Nat.le_refl _) _).setCell (Nat.le_refl _) _
      · go_wp2_with fail
        go_region_held3 (fun w' => w'.cell? ⟨gw, 0, none⟩ = some (.int .u16 (256 * x0 + x1)) ∧ w'.cell? ⟨gw, 1, none⟩ = some (.int .u16 (256 * x2 + x3)) ∧ w'.cell? ⟨gw, 3, none⟩ = some (.int .u16 (256 * x6 + x7)))
          (first
          | exact ⟨KK.out.1, KK.out.2.1, KK.out.2.2⟩
          | go_keep
          | exact ⟨(hbn.cell (p := ⟨gw, 0, none⟩) hgw).trans KK.out.1, (hbn.cell (p := ⟨gw, 1, none⟩) hgw).trans KK.out.2.1, (hbn.cell (p := ⟨gw, 3, none⟩) hgw).trans KK.out.2.2⟩
              | exact ⟨(cell_far4 _ _ _ _ _ _ ⟨gw, 0, none⟩ hne).trans ((hbn.cell (p := ⟨gw, 0, none⟩) hgw).trans KK.out.1), (cell_far4 _ _ _ _ _ _ ⟨gw, 1, none⟩ hne).trans ((hbn.cell (p := ⟨gw, 1, none⟩) hgw).trans KK.out.2.1), (cell_far4 _ _ _ _ _ _ ⟨gw, 3, none⟩ hne).trans ((hbn.cell (p := ⟨gw, 3, none⟩) hgw).trans KK.out.2.2)⟩)
          ((refine step_app0 _ (by rfl) (.tmp 56) (.tmp 59) 22 (by rfl) w1 (by exact (by repeat (first | exact Below.refl _ _ | exact Nat.le_refl _ | refine below_drewN ?_ _ | refine Below.setCell ?_ ?_ _ | refine Below.alloc ?_ ?_ _ | (simp; done)))) 5 (.int .u8 0) 1 1 Try.underlying22 info_u8 rfl (by decide) w1.heap.size (by rfl) (by exact rd_own w1 _ [] #[] 0 w1.heap.size rfl rfl (by omega) rfl _ (Nat.le_refl _)) (some ⟨b, off + 8, none⟩) (m - 8) (c - 8) (bs ((l.drop 8).take (m - 8))) (by rfl) (by exact hRd.alloc _) (one_bs _) (by unfold maxLen; omega) (by omega) ?_; intro An cn wn hownn hbn hgn; have z0 := (hbn.cell (p := ⟨w.heap.size, 0, none⟩) hlw).trans c0; have zf0 := (hbn.frozen (p := ⟨w.heap.size, 0, none⟩) hlw).trans f0; have z1 := (hbn.cell (p := ⟨w.heap.size, 1, none⟩) hlw).trans c1'; have zf1 := (hbn.frozen (p := ⟨w.heap.size, 1, none⟩) hlw).trans f1; have z2 := (hbn.cell (p := ⟨w.heap.size, 2, none⟩) hlw).trans c2; have zf2 := (hbn.frozen (p := ⟨w.heap.size, 2, none⟩) hlw).trans f2; have z3 := (hbn.cell (p := ⟨w.heap.size, 3, none⟩) hlw).trans c3; have zf3 := (hbn.frozen (p := ⟨w.heap.size, 3, none⟩) hlw).trans f3))
        go_wp2
        refine bodyPost_ret (v := .tuple #[.agg #[.int .i64 (256 * x0 + x1), .int .i64 (256 * x2 + x3), .bool true, .slice An (m - 8) cn], .int .i64 0]) (by simp [results, Try.results26, go_sem, z0, z1, z2, z3]) rfl (HF.out ⟨0, _, _, _, _⟩ An (m - 8) cn _ HP.out HB.out (Rd.of_own (ownsRow_setCell_below (ownsRow_setCell_below (ownsRow_setCell_below (ownsRow_setCell_below hownn (a := ⟨w.heap.size, 0, none⟩) hlw (.int .i64 (256 * x0 + x1))) (a := ⟨w.heap.size, 1, none⟩) hlw (.int .i64 (256 * x2 + x3))) (a := ⟨w.heap.size, 2, none⟩) hlw (.bool true)) (a := ⟨w.heap.size, 3, none⟩) hlw (.slice An _ cn))) ?_)
        exact ((((bel_then hbw1 hbn).setCell (Nat.le_refl _) _).setCell (Nat.le_refl _) _).setCell (Nat.le_refl _) _).setCell (Nat.le_refl _) _
end Go.Proofs.Ytodcbejdlnikgaa
