/- The walk of the reference's Parse of udp where there is a sum. -/
import Derived.Test.YtodcbejdlnikgaaUdpRefP
namespace Go.Proofs.Ytodcbejdlnikgaa
open Go.RowKit
set_option linter.unusedVariables false
attribute [local go_sem] u64_low16 u32_low16 u16_not u16_signed u64_of_u16 i64_join
set_option maxHeartbeats 6000000 in
theorem rudp_parse_sum (b off n c : Nat) (l : List Int) (s d : Int) (w : World) (hR : Rd w 1 (some ⟨b, off, none⟩) n (bs l)) (hB : isB l) (hn : 8 ≤ n) (hnc : n ≤ c) (hn2 : n ≤ 140737488355327)
    (hs0 : 0 ≤ s) (hs1 : s ≤ 4294967295) (hd0 : 0 ≤ d) (hd1 : d ≤ 4294967295) (hk0 : Udp.ck l ≠ 0) (hsz1 : ¬ (Udp.size l < 8 ∨ (l.length : Int) < Udp.size l)) :
    Calls Try.prog 26 #[.int .u32 s, .int .u32 d, .slice (some ⟨b, off, none⟩) n c] w (ParseR w (Udp.parse s d l)) := by
  have hl := hR.blen
  have cell : ∀ k, k < 8 → ∃ x, 0 ≤ x ∧ x ≤ 255 ∧ Hid (l.getD k 0 = x) := by
    intro k hk
    have hm : l[k] ∈ l := List.getElem_mem (h := by omega)
    have := hB _ hm
    refine ⟨l[k], this.1, this.2, ?_⟩
    show l.getD k 0 = l[k]
    rw [List.getD_eq_getElem?_getD, List.getElem?_eq_getElem (by omega)]; rfl
  obtain ⟨x0, p0, q0, g0⟩ := cell 0 (by omega)
  obtain ⟨x1, p1, q1, g1⟩ := cell 1 (by omega)
  obtain ⟨x2, p2, q2, g2⟩ := cell 2 (by omega)
  obtain ⟨x3, p3, q3, g3⟩ := cell 3 (by omega)
  obtain ⟨x4, p4, q4, g4⟩ := cell 4 (by omega)
  obtain ⟨x5, p5, q5, g5⟩ := cell 5 (by omega)
  obtain ⟨x6, p6, q6, g6⟩ := cell 6 (by omega)
  obtain ⟨x7, p7, q7, g7⟩ := cell 7 (by omega)
  have hsz : Udp.size l = x4 * 256 + x5 := by unfold Udp.size; rw [g4.out, g5.out]
  have hck : Udp.ck l = x6 * 256 + x7 := by unfold Udp.ck; rw [g6.out, g7.out]
  have htk : l.take 8 = [x0, x1, x2, x3, x4, x5, x6, x7] := by
    rw [← g0.out, ← g1.out, ← g2.out, ← g3.out, ← g4.out, ← g5.out, ← g6.out, ← g7.out]
    rcases l with _ | ⟨b0, _ | ⟨b1, _ | ⟨b2, _ | ⟨b3, _ | ⟨b4, _ | ⟨b5, _ | ⟨b6, _ | ⟨b7, r⟩⟩⟩⟩⟩⟩⟩⟩
    any_goals (exfalso; simp at hl; omega)
    rfl
  have hw8 : Csum.words (l.take 8) = [256 * x0 + x1, 256 * x2 + x3, 256 * x4 + x5, 256 * x6 + x7] := by rw [htk]; rfl
  have hbw : Below w.heap.size w (w.alloc (.cells #[.int .i64 0, .int .i64 0, .bool false, .slice none 0 0] 37)) := (Below.refl _ _).alloc (Nat.le_refl _) _
  have hRb := hR.below hbw
  have hR8 := hRb.btake (m := 8) (by omega)
  have hB8 := hB.take 8
  have HW := Lib.hid hw8
  clear cell htk hw8
  have hn8 : (8 : Int) ≤ (n : Int) := by omega
  have hc8 : (8 : Int) ≤ (c : Int) := by omega
  go_enter Try.func26, Try.ntmps26
  go_wp2_with fail
  refine (rcsum_words _ _ _ _ _ hR8 hB8 (by omega)).mono ?_
  rintro e w1 ⟨A1, c1, rfl, hown1, hb1⟩
  rw [HW.out] at hown1 ⊢
  simp only [List.map_cons, List.map_nil, List.length_cons, List.length_nil, Nat.zero_add, Nat.reduceAdd] at hown1 ⊢
  obtain ⟨gw, rfl, hg1, hgw⟩ := own_head hown1 (by omega)
  have k0 : w1.cell? ⟨gw, 0, none⟩ = some (.int .u16 (256 * x0 + x1)) := by rw [hown1.cellAt 0 (by omega)]; rfl
  have k1 : w1.cell? ⟨gw, 1, none⟩ = some (.int .u16 (256 * x2 + x3)) := by rw [hown1.cellAt 1 (by omega)]; rfl
  have k2 : w1.cell? ⟨gw, 2, none⟩ = some (.int .u16 (256 * x4 + x5)) := by rw [hown1.cellAt 2 (by omega)]; rfl
  have k3 : w1.cell? ⟨gw, 3, none⟩ = some (.int .u16 (256 * x6 + x7)) := by rw [hown1.cellAt 3 (by omega)]; rfl
  have c0 : w1.cell? ⟨w.heap.size, 0, none⟩ = some (.int .i64 0) := (hb1.cell (by simp)).trans (by rw [box_cell]; rfl)
  have c1' : w1.cell? ⟨w.heap.size, 1, none⟩ = some (.int .i64 0) := (hb1.cell (by simp)).trans (by rw [box_cell]; rfl)
  have c2 : w1.cell? ⟨w.heap.size, 2, none⟩ = some (.bool false) := (hb1.cell (by simp)).trans (by rw [box_cell]; rfl)
  have c3 : w1.cell? ⟨w.heap.size, 3, none⟩ = some (.slice none 0 0) := (hb1.cell (by simp)).trans (by rw [box_cell]; rfl)
  have f0 : w1.frozen? ⟨w.heap.size, 0, none⟩ = false := (hb1.frozen (by simp)).trans (frozen_of_row _ _ 0 _ _ (heap_alloc_new w _))
  have f1 : w1.frozen? ⟨w.heap.size, 1, none⟩ = false := (hb1.frozen (by simp)).trans (frozen_of_row _ _ 1 _ _ (heap_alloc_new w _))
  have f2 : w1.frozen? ⟨w.heap.size, 2, none⟩ = false := (hb1.frozen (by simp)).trans (frozen_of_row _ _ 2 _ _ (heap_alloc_new w _))
  have f3 : w1.frozen? ⟨w.heap.size, 3, none⟩ = false := (hb1.frozen (by simp)).trans (frozen_of_row _ _ 3 _ _ (heap_alloc_new w _))
  have hRw := hRb.below hb1
  have hbw1 := bel_then hbw hb1
  have hlw := World.block_lt_of_cell? _ _ c0
  have hfin : ∀ (g : Udp.Got) (A : Option Addr) (n' c' : Nat) (w' : World), Udp.parse s d l = g → g.body.length = n' → Rd w' 1 A n' (bs g.body) → Below w.heap.size w w' →
      ParseR w (Udp.parse s d l) (.returned (.tuple #[.agg #[.int .i64 g.sp, .int .i64 g.dp, .bool g.ns, .slice A n' c'], .int .i64 g.err])) w' := by
    rintro g A n' c' w' rfl rfl h1 h2; exact ⟨A, c', rfl, h1, h2⟩
  have HF := Lib.hid hfin
  have HO := Lib.hid hown1
  have HSZ := Lib.hid hsz
  have HCK := Lib.hid hck
  clear hfin hown1 hR hRb hR8 hB8 hsz hck hl
  have hl := hRw.blen
  have hs1' : ¬ (x4 * 256 + x5 < 8 ∨ (n : Int) < x4 * 256 + x5) := by rw [HSZ.out] at hsz1; omega
  clear hsz1 hl
  obtain ⟨m, hm⟩ : ∃ m : Nat, 256 * x4 + x5 = (m : Int) := ⟨(256 * x4 + x5).toNat, by omega⟩
  have hz0 : 8 ≤ m := by omega
  have hz1 : m ≤ n := by omega
  have hz2 : (8 : Int) ≤ (m : Int) := by omega
  have hmc : (m : Int) ≤ (c : Int) := by omega
  have hRm := hRw.btake hz1
  have hBm := hB.take m
  have hRd := (hRw.bdrop 8 (m - 8) (by omega))
  have hbody : (l.take m).drop 8 = (l.drop 8).take (m - 8) := by rw [List.drop_take]
  have hl := hRw.blen
  have hsz : Udp.size l = (m : Int) := by rw [HSZ.out]; omega
  have hblen : ((l.drop 8).take (m - 8)).length = m - 8 := by simp; omega
  have HB := Lib.hid hblen
  have hne : gw ≠ w.heap.size := by simp at hg1; omega
  have v0 : IntKind.i64.wrap (256 * x0 + x1) = 256 * x0 + x1 := IntWalk.i64_in _ (by omega)
  have v1 : IntKind.i64.wrap (256 * x2 + x3) = 256 * x2 + x3 := IntWalk.i64_in _ (by omega)
  have hk : x6 * 256 + x7 ≠ 0 := by rw [← HCK.out]; exact hk0
  have hk1 : 0 < 256 * x6 + x7 := by omega
  have hk2 : (256 * x6 + x7 == 0) = false := by rw [beq_eq_false_iff_ne]; omega
  go_wp2_with fail
  refine (rudp_sum _ _ _ _ s d _ hRm hBm (by omega) hs0 hs1 hd0 hd1).mono ?_
  rintro e w2 ⟨rfl, hb2⟩
  have K0 := (hb2.cell (p := ⟨gw, 0, none⟩) hgw).trans k0
  have K1 := (hb2.cell (p := ⟨gw, 1, none⟩) hgw).trans k1
  have K3 := (hb2.cell (p := ⟨gw, 3, none⟩) hgw).trans k3
  have C0 := (hb2.cell (p := ⟨w.heap.size, 0, none⟩) hlw).trans c0
  have C1 := (hb2.cell (p := ⟨w.heap.size, 1, none⟩) hlw).trans c1'
  have C2 := (hb2.cell (p := ⟨w.heap.size, 2, none⟩) hlw).trans c2
  have C3 := (hb2.cell (p := ⟨w.heap.size, 3, none⟩) hlw).trans c3
  have G0 := (hb2.frozen (p := ⟨w.heap.size, 0, none⟩) hlw).trans f0
  have G1 := (hb2.frozen (p := ⟨w.heap.size, 1, none⟩) hlw).trans f1
  have G2 := (hb2.frozen (p := ⟨w.heap.size, 2, none⟩) hlw).trans f2
  have G3 := (hb2.frozen (p := ⟨w.heap.size, 3, none⟩) hlw).trans f3
  have hRd2 := hRd.below hb2
  have KK := Lib.hid (And.intro K0 (And.intro K1 K3))
  have hbw2 := bel_then hbw1 hb2
  have hlw2 : w.heap.size < w2.heap.size := by have := hb2.size; omega
  have hgw2 : gw < w2.heap.size := by have := hb2.size; omega
  clear k0 k1 k2 k3 c0 c1' c2 c3 f0 f1 f2 f3 HO
  by_cases hq : Udp.sum s d (l.take m) = 65535
  · have hq2 : (Udp.sum s d (l.take m) != 65535) = false := by rw [bne_eq_false_iff_eq]; exact hq
    have hp : Udp.parse s d l = ⟨0, 256 * x0 + x1, 256 * x2 + x3, false, (l.drop 8).take (m - 8)⟩ := by
      rw [show 256 * x0 + x1 = x0 * 256 + x1 by omega, show 256 * x2 + x3 = x2 * 256 + x3 by omega]
      unfold Udp.parse
      rw [if_neg (by omega), hsz, if_neg (by omega), HCK.out, show ((m : Int)).toNat = m from rfl, if_neg (by rintro ⟨_, h⟩; exact h hq), g0.out, g1.out, g2.out, g3.out]
      simp [hbody, hk]
    have HP := Lib.hid hp
    clear hp hblen hbody hsz hl hs1' hRm hRw hRd hk hq
    by_cases hc8 : c = 8
    · obtain rfl : m = 8 := by omega
      obtain rfl : n = 8 := by omega
      subst hc8
      simp only [Nat.sub_self, List.take_zero] at HP HB hRd2
      clear hRd2
      go_wp2_with fail
      go_region_held3 (fun w' => w'.cell? ⟨gw, 0, none⟩ = some (.int .u16 (256 * x0 + x1)) ∧ w'.cell? ⟨gw, 1, none⟩ = some (.int .u16 (256 * x2 + x3)) ∧ w'.cell? ⟨gw, 3, none⟩ = some (.int .u16 (256 * x6 + x7)))
        (first
        | exact ⟨KK.out.1, KK.out.2.1, KK.out.2.2⟩
        | go_keep
        | exact ⟨(hbn.cell (p := ⟨gw, 0, none⟩) hgw2).trans KK.out.1, (hbn.cell (p := ⟨gw, 1, none⟩) hgw2).trans KK.out.2.1, (hbn.cell (p := ⟨gw, 3, none⟩) hgw2).trans KK.out.2.2⟩
            | exact ⟨(cell_far4 _ _ _ _ _ _ ⟨gw, 0, none⟩ hne).trans ((hbn.cell (p := ⟨gw, 0, none⟩) hgw2).trans KK.out.1), (cell_far4 _ _ _ _ _ _ ⟨gw, 1, none⟩ hne).trans ((hbn.cell (p := ⟨gw, 1, none⟩) hgw2).trans KK.out.2.1), (cell_far4 _ _ _ _ _ _ ⟨gw, 3, none⟩ hne).trans ((hbn.cell (p := ⟨gw, 3, none⟩) hgw2).trans KK.out.2.2)⟩)
        ((refine step_app0 _ (by rfl) (.tmp 56) (.tmp 59) 22 (by rfl) w2 (by exact (by repeat (first | exact Below.refl _ _ | exact Nat.le_refl _ | refine below_drewN ?_ _ | refine Below.setCell ?_ ?_ _ | refine Below.alloc ?_ ?_ _ | (simp; done)))) 5 (.int .u8 0) 1 1 Try.underlying22 info_u8 rfl (by decide) w2.heap.size (by rfl) (by exact rd_own w2 _ [] #[] 0 w2.heap.size rfl rfl (by omega) rfl _ (Nat.le_refl _)) (some ⟨b, off, none⟩) 0 0 (bs []) (by rfl) (by exact Rd.nil_ _) (one_bs _) (by unfold maxLen; omega) (by omega) ?_; intro An cn wn hownn hbn hgn; have z0 := (hbn.cell (p := ⟨w.heap.size, 0, none⟩) hlw2).trans C0; have zf0 := (hbn.frozen (p := ⟨w.heap.size, 0, none⟩) hlw2).trans G0; have z1 := (hbn.cell (p := ⟨w.heap.size, 1, none⟩) hlw2).trans C1; have zf1 := (hbn.frozen (p := ⟨w.heap.size, 1, none⟩) hlw2).trans G1; have z2 := (hbn.cell (p := ⟨w.heap.size, 2, none⟩) hlw2).trans C2; have zf2 := (hbn.frozen (p := ⟨w.heap.size, 2, none⟩) hlw2).trans G2; have z3 := (hbn.cell (p := ⟨w.heap.size, 3, none⟩) hlw2).trans C3; have zf3 := (hbn.frozen (p := ⟨w.heap.size, 3, none⟩) hlw2).trans G3))
      go_wp2
      refine bodyPost_ret (v := .tuple #[.agg #[.int .i64 (256 * x0 + x1), .int .i64 (256 * x2 + x3), .bool false, .slice An 0 cn], .int .i64 0]) (by simp [results, Try.results26, go_sem, z0, z1, z2, z3]) rfl (HF.out ⟨0, _, _, _, _⟩ An 0 cn _ HP.out HB.out (Rd.of_own (ownsRow_setCell_below (ownsRow_setCell_below (ownsRow_setCell_below (ownsRow_setCell_below hownn (a := ⟨w.heap.size, 0, none⟩) hlw2 (.int .i64 (256 * x0 + x1))) (a := ⟨w.heap.size, 1, none⟩) hlw2 (.int .i64 (256 * x2 + x3))) (a := ⟨w.heap.size, 2, none⟩) hlw2 (.bool false)) (a := ⟨w.heap.size, 3, none⟩) hlw2 (.slice An _ cn))) ?_)
      exact ((((bel_then hbw2 hbn).setCell (Nat.le_refl _) _).setCell (Nat.le_refl _) _).setCell (Nat.le_refl _) _).setCell (Nat.le_refl _) _
    · go_wp2_with fail
      go_region_held3 (fun w' => w'.cell? ⟨gw, 0, none⟩ = some (.int .u16 (256 * x0 + x1)) ∧ w'.cell? ⟨gw, 1, none⟩ = some (.int .u16 (256 * x2 + x3)) ∧ w'.cell? ⟨gw, 3, none⟩ = some (.int .u16 (256 * x6 + x7)))
        (first
        | exact ⟨KK.out.1, KK.out.2.1, KK.out.2.2⟩
        | go_keep
        | exact ⟨(hbn.cell (p := ⟨gw, 0, none⟩) hgw2).trans KK.out.1, (hbn.cell (p := ⟨gw, 1, none⟩) hgw2).trans KK.out.2.1, (hbn.cell (p := ⟨gw, 3, none⟩) hgw2).trans KK.out.2.2⟩
            | exact ⟨(cell_far4 _ _ _ _ _ _ ⟨gw, 0, none⟩ hne).trans ((hbn.cell (p := ⟨gw, 0, none⟩) hgw2).trans KK.out.1), (cell_far4 _ _ _ _ _ _ ⟨gw, 1, none⟩ hne).trans ((hbn.cell (p := ⟨gw, 1, none⟩) hgw2).trans KK.out.2.1), (cell_far4 _ _ _ _ _ _ ⟨gw, 3, none⟩ hne).trans ((hbn.cell (p := ⟨gw, 3, none⟩) hgw2).trans KK.out.2.2)⟩)
        ((refine step_app0 _ (by rfl) (.tmp 56) (.tmp 59) 22 (by rfl) w2 (by exact (by repeat (first | exact Below.refl _ _ | exact Nat.le_refl _ | refine below_drewN ?_ _ | refine Below.setCell ?_ ?_ _ | refine Below.alloc ?_ ?_ _ | (simp; done)))) 5 (.int .u8 0) 1 1 Try.underlying22 info_u8 rfl (by decide) w2.heap.size (by rfl) (by exact rd_own w2 _ [] #[] 0 w2.heap.size rfl rfl (by omega) rfl _ (Nat.le_refl _)) (some ⟨b, off + 8, none⟩) (m - 8) (c - 8) (bs ((l.drop 8).take (m - 8))) (by rfl) (by exact hRd2.alloc _) (one_bs _) (by unfold maxLen; omega) (by omega) ?_; intro An cn wn hownn hbn hgn; have z0 := (hbn.cell (p := ⟨w.heap.size, 0, none⟩) hlw2).trans C0; have zf0 := (hbn.frozen (p := ⟨w.heap.size, 0, none⟩) hlw2).trans G0; have z1 := (hbn.cell (p := ⟨w.heap.size, 1, none⟩) hlw2).trans C1; have zf1 := (hbn.frozen (p := ⟨w.heap.size, 1, none⟩) hlw2).trans G1; have z2 := (hbn.cell (p := ⟨w.heap.size, 2, none⟩) hlw2).trans C2; have zf2 := (hbn.frozen (p := ⟨w.heap.size, 2, none⟩) hlw2).trans G2; have z3 := (hbn.cell (p := ⟨w.heap.size, 3, none⟩) hlw2).trans C3; have zf3 := (hbn.frozen (p := ⟨w.heap.size, 3, none⟩) hlw2).trans G3))
      go_wp2
      refine bodyPost_ret (v := .tuple #[.agg #[.int .i64 (256 * x0 + x1), .int .i64 (256 * x2 + x3), .bool false, .slice An (m - 8) cn], .int .i64 0]) (by simp [results, Try.results26, go_sem, z0, z1, z2, z3]) rfl (HF.out ⟨0, _, _, _, _⟩ An (m - 8) cn _ HP.out HB.out (Rd.of_own (ownsRow_setCell_below (ownsRow_setCell_below (ownsRow_setCell_below (ownsRow_setCell_below hownn (a := ⟨w.heap.size, 0, none⟩) hlw2 (.int .i64 (256 * x0 + x1))) (a := ⟨w.heap.size, 1, none⟩) hlw2 (.int .i64 (256 * x2 + x3))) (a := ⟨w.heap.size, 2, none⟩) hlw2 (.bool false)) (a := ⟨w.heap.size, 3, none⟩) hlw2 (.slice An _ cn))) ?_)
      exact ((((bel_then hbw2 hbn).setCell (Nat.le_refl _) _).setCell (Nat.le_refl _) _).setCell (Nat.le_refl _) _).setCell (Nat.le_refl _) _
  · have hq2 : (Udp.sum s d (l.take m) != 65535) = true := by rw [bne_iff_ne]; exact hq
    have hp : Udp.parse s d l = ⟨5, 0, 0, false, []⟩ := by
      unfold Udp.parse
      rw [if_neg (by omega), hsz, if_neg (by omega), HCK.out, show ((m : Int)).toNat = m from rfl, if_pos ⟨hk, hq⟩]
    have HP := Lib.hid hp
    clear hp hbody hsz hl hs1' hRm hRw hRd hk hq
    go_wp2
    refine bodyPost_ret (v := .tuple #[.agg #[.int .i64 0, .int .i64 0, .bool false, .slice none 0 0], .int .i64 5]) (by simp [results, Try.results26, go_sem, C0, C1, C2, C3]) rfl (HF.out ⟨5, 0, 0, false, []⟩ none 0 0 _ HP.out rfl (Rd.nil_ _) ?_)
    exact ((((hbw2).setCell (Nat.le_refl _) _).setCell (Nat.le_refl _) _).setCell (Nat.le_refl _) _).setCell (Nat.le_refl _) _
end Go.Proofs.Ytodcbejdlnikgaa
