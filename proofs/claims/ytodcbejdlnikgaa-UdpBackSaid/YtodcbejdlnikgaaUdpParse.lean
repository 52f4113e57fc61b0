/- The walks of udp.Parse and udp.Same. -/
import Derived.Test.YtodcbejdlnikgaaUdpWalks
namespace Go.Proofs.Ytodcbejdlnikgaa
open Go.RowKit
set_option linter.unusedVariables false
attribute [local go_sem] u64_low16 u32_low16 u16_not u16_signed u64_of_u16 i64_join
/-- What Parse leaves: a datagram whose body reads, and an error. -/
def ParseR (w : World) (g : Udp.Got) (en : Ending) (w' : World) : Prop :=
  ∃ A c, en = .returned (.tuple #[.agg #[.int .i64 g.sp, .int .i64 g.dp, .bool g.ns, .slice A g.body.length c], .int .i64 g.err]) ∧ Rd w' 1 A g.body.length (bs g.body) ∧ Below w.heap.size w w'
theorem Rd.bdrop {w : World} {b off n : Nat} {l : List Int} (h : Rd w 1 (some ⟨b, off, none⟩) n (bs l)) (k m : Nat) (hk : k + m ≤ n) : Rd w 1 (some ⟨b, off + k, none⟩) m (bs ((l.drop k).take m)) := by
  have hl := h.blen
  refine ⟨by rw [bs_len]; simp; omega, fun hm => ?_⟩
  obtain ⟨b', off', e, hb, hc⟩ := h.2 (by omega)
  simp only [Option.some.injEq, Addr.mk.injEq, and_true] at e
  obtain ⟨rfl, rfl⟩ := e
  refine ⟨b, off + k, rfl, hb, fun j u hu => ?_⟩
  rw [Nat.add_assoc]
  refine hc (k + j) u ?_
  simp only [bs, List.getElem?_map, List.getElem?_take, List.getElem?_drop] at hu ⊢
  split at hu
  · exact hu
  · simp at hu
set_option maxHeartbeats 1000000 in
theorem udp_parse_short (A : Option Addr) (n c : Nat) (l : List Int) (s d : Int) (w : World) (hn : n < 8) (hl : l.length = n) :
    Calls Try.prog 25 #[.int .u32 s, .int .u32 d, .slice A n c] w (ParseR w (Udp.parse s d l)) := by
  have hp : Udp.parse s d l = ⟨2, 0, 0, false, []⟩ := by unfold Udp.parse; rw [if_pos (by omega)]
  rw [hp]
  clear hp hl
  go_enter Try.func25, Try.ntmps25
  go_wp2
  refine bodyPost_ret (v := .tuple #[.agg #[.int .i64 0, .int .i64 0, .bool false, .slice none 0 0], .int .i64 2]) (by simp [results, Try.results25, go_sem]) rfl ⟨none, 0, rfl, Rd.nil_ _, ?_⟩
  exact ((Below.refl _ _).alloc (Nat.le_refl _) _)
set_option maxHeartbeats 1000000 in
theorem udp_parse_long (b off n c : Nat) (l : List Int) (s d : Int) (w : World) (hR : Rd w 1 (some ⟨b, off, none⟩) n (bs l)) (hB : isB l) (hn : 8 ≤ n) (hnc : n ≤ c) (hn2 : n ≤ 140737488355328)
    (hs0 : 0 ≤ s) (hs1 : s ≤ 4294967295) (hd0 : 0 ≤ d) (hd1 : d ≤ 4294967295) :
    Calls Try.prog 25 #[.int .u32 s, .int .u32 d, .slice (some ⟨b, off, none⟩) n c] w (ParseR w (Udp.parse s d l)) := by
  have hl := hR.blen
  have cell : ∀ k, k < 8 → ∃ x, w.cell? ⟨b, off + k, none⟩ = some (.int .u8 x) ∧ 0 ≤ x ∧ x ≤ 255 ∧ Hid (l.getD k 0 = x) := by
    intro k hk
    obtain ⟨b', off', x, e, _, hc, hx, hm⟩ := Rd.int (kd := .u8) hR (k := k) (by omega)
    simp only [Option.some.injEq, Addr.mk.injEq, and_true] at e
    obtain ⟨rfl, rfl⟩ := e
    have := hB x hm
    refine ⟨x, hc, this.1, this.2, ?_⟩
    show l.getD k 0 = x
    rw [List.getD_eq_getElem?_getD, hx.out]; rfl
  obtain ⟨x0, c0, p0, q0, g0⟩ := cell 0 (by omega)
  obtain ⟨x1, c1, p1, q1, g1⟩ := cell 1 (by omega)
  obtain ⟨x2, c2, p2, q2, g2⟩ := cell 2 (by omega)
  obtain ⟨x3, c3, p3, q3, g3⟩ := cell 3 (by omega)
  obtain ⟨x4, c4, p4, q4, g4⟩ := cell 4 (by omega)
  obtain ⟨x5, c5, p5, q5, g5⟩ := cell 5 (by omega)
  obtain ⟨x6, c6, p6, q6, g6⟩ := cell 6 (by omega)
  obtain ⟨x7, c7, p7, q7, g7⟩ := cell 7 (by omega)
  have hsz : Udp.size l = x4 * 256 + x5 := by unfold Udp.size; rw [g4.out, g5.out]
  have hck : Udp.ck l = x6 * 256 + x7 := by unfold Udp.ck; rw [g6.out, g7.out]
  have hc8 : ¬ c = 4 := by omega
  have hc6 : ¬ c = 6 := by omega
  have hc2 : ¬ c = 2 := by omega
  clear cell
  have hbw : Below w.heap.size w (w.alloc (.cells #[.int .i64 0, .int .i64 0, .bool false, .slice none 0 0] 37)) := (Below.refl _ _).alloc (Nat.le_refl _) _
  obtain ⟨b'', off'', hAeq, hbl, _⟩ := hR.2 (by omega)
  simp only [Option.some.injEq, Addr.mk.injEq, and_true] at hAeq
  obtain ⟨rfl, rfl⟩ := hAeq
  have e0 : (w.alloc (.cells #[.int .i64 0, .int .i64 0, .bool false, .slice none 0 0] 37)).cell? ⟨b, off, none⟩ = some (.int .u8 x0) := (hbw.cell hbl).trans c0
  have e1 : (w.alloc (.cells #[.int .i64 0, .int .i64 0, .bool false, .slice none 0 0] 37)).cell? ⟨b, off + 1, none⟩ = some (.int .u8 x1) := (hbw.cell hbl).trans c1
  have e2 : (w.alloc (.cells #[.int .i64 0, .int .i64 0, .bool false, .slice none 0 0] 37)).cell? ⟨b, off + 2, none⟩ = some (.int .u8 x2) := (hbw.cell hbl).trans c2
  have e3 : (w.alloc (.cells #[.int .i64 0, .int .i64 0, .bool false, .slice none 0 0] 37)).cell? ⟨b, off + 2 + 1, none⟩ = some (.int .u8 x3) := (hbw.cell hbl).trans c3
  have e4 : (w.alloc (.cells #[.int .i64 0, .int .i64 0, .bool false, .slice none 0 0] 37)).cell? ⟨b, off + 4, none⟩ = some (.int .u8 x4) := (hbw.cell hbl).trans c4
  have e5 : (w.alloc (.cells #[.int .i64 0, .int .i64 0, .bool false, .slice none 0 0] 37)).cell? ⟨b, off + 4 + 1, none⟩ = some (.int .u8 x5) := (hbw.cell hbl).trans c5
  have e6 : (w.alloc (.cells #[.int .i64 0, .int .i64 0, .bool false, .slice none 0 0] 37)).cell? ⟨b, off + 6, none⟩ = some (.int .u8 x6) := (hbw.cell hbl).trans c6
  have e7 : (w.alloc (.cells #[.int .i64 0, .int .i64 0, .bool false, .slice none 0 0] 37)).cell? ⟨b, off + 6 + 1, none⟩ = some (.int .u8 x7) := (hbw.cell hbl).trans c7
  have G4 : ∀ q, Calls Try.prog 34 #[.slice (some ⟨b, off + 4, none⟩) (n - 4) (c - 4)] ((w.alloc (.cells #[.int .i64 0, .int .i64 0, .bool false, .slice none 0 0] 37)).drewN q) (fun e w'' => e = .returned (.int .i64 (x4 * 256 + x5)) ∧ ∃ m, w'' = (w.alloc (.cells #[.int .i64 0, .int .i64 0, .bool false, .slice none 0 0] 37)).drewN m) :=
    fun q => Calls.quiet_of (udp_get b (off + 4) (n - 4) (c - 4) x4 x5 ((w.alloc (.cells #[.int .i64 0, .int .i64 0, .bool false, .slice none 0 0] 37)).drewN q) (by omega) e4 e5 p4 q4 p5 q5)
  have G6 : ∀ q, Calls Try.prog 34 #[.slice (some ⟨b, off + 6, none⟩) (n - 6) (c - 6)] ((w.alloc (.cells #[.int .i64 0, .int .i64 0, .bool false, .slice none 0 0] 37)).drewN q) (fun e w'' => e = .returned (.int .i64 (x6 * 256 + x7)) ∧ ∃ m, w'' = (w.alloc (.cells #[.int .i64 0, .int .i64 0, .bool false, .slice none 0 0] 37)).drewN m) :=
    fun q => Calls.quiet_of (udp_get b (off + 6) (n - 6) (c - 6) x6 x7 ((w.alloc (.cells #[.int .i64 0, .int .i64 0, .bool false, .slice none 0 0] 37)).drewN q) (by omega) e6 e7 p6 q6 p7 q7)
  have HG4 := Lib.hid G4
  have HG6 := Lib.hid G6
  have HSZ := Lib.hid hsz
  have HCK := Lib.hid hck
  have HL := Lib.hid hl
  have hRb := hR.below hbw
  have hn4 : (4 : Int) ≤ (n : Int) := by omega
  have hn6 : (6 : Int) ≤ (n : Int) := by omega
  have hnc' : (n : Int) ≤ (c : Int) := by omega
  have hfin : ∀ (g : Udp.Got) (A : Option Addr) (n' c' : Nat) (w' : World), Udp.parse s d l = g → g.body.length = n' → Rd w' 1 A n' (bs g.body) → Below w.heap.size w w' →
      ParseR w (Udp.parse s d l) (.returned (.tuple #[.agg #[.int .i64 g.sp, .int .i64 g.dp, .bool g.ns, .slice A n' c'], .int .i64 g.err])) w' := by
    rintro g A n' c' w' rfl rfl h1 h2; exact ⟨A, c', rfl, h1, h2⟩
  have HF := Lib.hid hfin
  clear hfin G4 G6 hck hR c0 c1 c2 c3 c4 c5 c6 c7
  by_cases hs1' : x4 * 256 + x5 < 8 ∨ (n : Int) < x4 * 256 + x5
  · have hp : Udp.parse s d l = ⟨4, 0, 0, false, []⟩ := by unfold Udp.parse; rw [if_neg (by omega), hsz, if_pos (by omega)]
    have HP := Lib.hid hp
    clear hp hsz hl
    rcases hs1' with hs1' | hs1'
    · go_enter Try.func25, Try.ntmps25
      go_wp2
      go_quiet ((first | (with_reducible exact HG4.out _) | (with_reducible exact HG6.out _)))
      go_wp2
      refine bodyPost_ret (v := .tuple #[.agg #[.int .i64 0, .int .i64 0, .bool false, .slice none 0 0], .int .i64 4]) (by simp [results, Try.results25, go_sem]) rfl (HF.out ⟨4, 0, 0, false, []⟩ none 0 0 _ HP.out rfl (Rd.nil_ _) ?_)
      exact (by repeat (first | exact Below.refl _ _ | exact Nat.le_refl _ | refine below_drewN ?_ _ | refine Below.setCell ?_ ?_ _ | refine Below.alloc ?_ ?_ _ | (simp; done)))
    · have hs2' : ¬ x4 * 256 + x5 < 8 := by omega
      go_enter Try.func25, Try.ntmps25
      go_wp2
      go_quiet ((first | (with_reducible exact HG4.out _) | (with_reducible exact HG6.out _)))
      go_wp2
      refine bodyPost_ret (v := .tuple #[.agg #[.int .i64 0, .int .i64 0, .bool false, .slice none 0 0], .int .i64 4]) (by simp [results, Try.results25, go_sem]) rfl (HF.out ⟨4, 0, 0, false, []⟩ none 0 0 _ HP.out rfl (Rd.nil_ _) ?_)
      exact (by repeat (first | exact Below.refl _ _ | exact Nat.le_refl _ | refine below_drewN ?_ _ | refine Below.setCell ?_ ?_ _ | refine Below.alloc ?_ ?_ _ | (simp; done)))
  · obtain ⟨m, hm⟩ : ∃ m : Nat, x4 * 256 + x5 = (m : Int) := ⟨(x4 * 256 + x5).toNat, by omega⟩
    have hz0 : 8 ≤ m := by omega
    have hz1 : m ≤ n := by omega
    have hz2 : (8 : Int) ≤ (m : Int) := by omega
    have B0 : (w.alloc (.cells #[.int .i64 0, .int .i64 0, .bool false, .slice none 0 0] 37)).cell? ⟨w.heap.size, 0, none⟩ = some (.int .i64 0) := by rw [box_cell]; rfl
    have B1 : (w.alloc (.cells #[.int .i64 0, .int .i64 0, .bool false, .slice none 0 0] 37)).cell? ⟨w.heap.size, 1, none⟩ = some (.int .i64 0) := by rw [box_cell]; rfl
    have B2 : (w.alloc (.cells #[.int .i64 0, .int .i64 0, .bool false, .slice none 0 0] 37)).cell? ⟨w.heap.size, 2, none⟩ = some (.bool false) := by rw [box_cell]; rfl
    have B3 : (w.alloc (.cells #[.int .i64 0, .int .i64 0, .bool false, .slice none 0 0] 37)).cell? ⟨w.heap.size, 3, none⟩ = some (.slice none 0 0) := by rw [box_cell]; rfl
    have F0 : (w.alloc (.cells #[.int .i64 0, .int .i64 0, .bool false, .slice none 0 0] 37)).frozen? ⟨w.heap.size, 0, none⟩ = false := frozen_of_row _ _ 0 _ _ (heap_alloc_new w _)
    have F1 : (w.alloc (.cells #[.int .i64 0, .int .i64 0, .bool false, .slice none 0 0] 37)).frozen? ⟨w.heap.size, 1, none⟩ = false := frozen_of_row _ _ 1 _ _ (heap_alloc_new w _)
    have F2 : (w.alloc (.cells #[.int .i64 0, .int .i64 0, .bool false, .slice none 0 0] 37)).frozen? ⟨w.heap.size, 2, none⟩ = false := frozen_of_row _ _ 2 _ _ (heap_alloc_new w _)
    have F3 : (w.alloc (.cells #[.int .i64 0, .int .i64 0, .bool false, .slice none 0 0] 37)).frozen? ⟨w.heap.size, 3, none⟩ = false := frozen_of_row _ _ 3 _ _ (heap_alloc_new w _)
    have hRm := hRb.btake hz1
    have hBm := hB.take m
    have hRd := (hRb.bdrop 8 (m - 8) (by omega))
    have hbody : (l.take m).drop 8 = (l.drop 8).take (m - 8) := by rw [List.drop_take]
    have hm' : (Udp.size l).toNat = m := by rw [hsz, hm]; rfl
    by_cases hk : x6 * 256 + x7 = 0
    · have hp : Udp.parse s d l = ⟨0, x0 * 256 + x1, x2 * 256 + x3, true, (l.drop 8).take (m - 8)⟩ := by
        unfold Udp.parse
        rw [if_neg (by omega), hsz, if_neg (by omega), HCK.out, hk, if_neg (by simp), g0.out, g1.out, g2.out, g3.out, hm]
        simp [hbody]
      have hblen : ((l.drop 8).take (m - 8)).length = m - 8 := by simp; omega
      have HP := Lib.hid hp
      have HB := Lib.hid hblen
      clear hp hblen hbody hm' hsz hl hs1' hRm hRb
      by_cases hc8 : c = 8
      · obtain rfl : m = 8 := by omega
        obtain rfl : n = 8 := by omega
        subst hc8
        simp only [Nat.sub_self, List.take_zero] at HP HB hRd
        clear hRd
        go_enter Try.func25, Try.ntmps25
        go_wp2
        go_quiet ((first | (with_reducible exact HG4.out _) | (with_reducible exact HG6.out _)))
        go_wp2_with fail
        go_region_held3 (fun _ => True) (trivial)
          ((first
            | (go_at_call 34; (with_reducible refine (udp_get b off 8 8 x0 x1 _ ?_ ?_ ?_ p0 q0 p1 q1).mono ?_); omega; exact e0; exact e1; rintro e wn ⟨rfl, q, rfl⟩)
            | (go_at_call 34; (with_reducible refine (udp_get b (off + 2) 6 6 x2 x3 _ ?_ ?_ ?_ p2 q2 p3 q3).mono ?_); omega; exact e2; exact e3; rintro e wn ⟨rfl, q, rfl⟩)
            | (go_at_call 36; (refine (bytes_clone _ _ _ [] _ (Rd.nil_ _) (by omega)).mono ?_); rintro e wn ⟨An, cn, rfl, hownn, hbn⟩; have k0 := (hbn.cell (p := ⟨w.heap.size, 0, none⟩) (by simp)).trans B0; have kf0 := (hbn.frozen (p := ⟨w.heap.size, 0, none⟩) (by simp)).trans F0; have k1 := (hbn.cell (p := ⟨w.heap.size, 1, none⟩) (by simp)).trans B1; have kf1 := (hbn.frozen (p := ⟨w.heap.size, 1, none⟩) (by simp)).trans F1; have k2 := (hbn.cell (p := ⟨w.heap.size, 2, none⟩) (by simp)).trans B2; have kf2 := (hbn.frozen (p := ⟨w.heap.size, 2, none⟩) (by simp)).trans F2; have k3 := (hbn.cell (p := ⟨w.heap.size, 3, none⟩) (by simp)).trans B3; have kf3 := (hbn.frozen (p := ⟨w.heap.size, 3, none⟩) (by simp)).trans F3)))
        go_wp2
        refine bodyPost_ret (v := .tuple #[.agg #[.int .i64 (x0 * 256 + x1), .int .i64 (x2 * 256 + x3), .bool true, .slice An 0 cn], .int .i64 0]) (by simp [results, Try.results25, go_sem, k0, k1, k2, k3]) rfl (HF.out ⟨0, _, _, _, _⟩ An 0 cn _ HP.out HB.out (Rd.of_own (ownsRow_setCell_below (ownsRow_setCell_below (ownsRow_setCell_below (ownsRow_setCell_below hownn (a := ⟨w.heap.size, 0, none⟩) (by simp) (.int .i64 (x0 * 256 + x1))) (a := ⟨w.heap.size, 1, none⟩) (by simp) (.int .i64 (x2 * 256 + x3))) (a := ⟨w.heap.size, 2, none⟩) (by simp) (.bool true)) (a := ⟨w.heap.size, 3, none⟩) (by simp) (.slice An _ cn))) ?_)
        exact ((((bel_then (below_drewN hbw _) hbn).setCell (Nat.le_refl _) _).setCell (Nat.le_refl _) _).setCell (Nat.le_refl _) _).setCell (Nat.le_refl _) _
      · have hmc : (m : Int) ≤ (c : Int) := by omega
        have hn2' : (2 : Int) ≤ (n : Int) := by omega
        go_enter Try.func25, Try.ntmps25
        go_wp2
        go_quiet ((first | (with_reducible exact HG4.out _) | (with_reducible exact HG6.out _)))
        go_wp2_with fail
        go_region_held3 (fun _ => True) (trivial)
          ((first
            | (go_at_call 34; (with_reducible refine (udp_get b off n c x0 x1 _ ?_ ?_ ?_ p0 q0 p1 q1).mono ?_); omega; exact e0; exact e1; rintro e wn ⟨rfl, q, rfl⟩)
            | (go_at_call 34; (with_reducible refine (udp_get b (off + 2) (n - 2) (c - 2) x2 x3 _ ?_ ?_ ?_ p2 q2 p3 q3).mono ?_); omega; exact e2; exact e3; rintro e wn ⟨rfl, q, rfl⟩)
            | (go_at_call 36; (refine (bytes_clone _ _ _ _ _ (by exact hRd) (by omega)).mono ?_); rintro e wn ⟨An, cn, rfl, hownn, hbn⟩; have k0 := (hbn.cell (p := ⟨w.heap.size, 0, none⟩) (by simp)).trans B0; have kf0 := (hbn.frozen (p := ⟨w.heap.size, 0, none⟩) (by simp)).trans F0; have k1 := (hbn.cell (p := ⟨w.heap.size, 1, none⟩) (by simp)).trans B1; have kf1 := (hbn.frozen (p := ⟨w.heap.size, 1, none⟩) (by simp)).trans F1; have k2 := (hbn.cell (p := ⟨w.heap.size, 2, none⟩) (by simp)).trans B2; have kf2 := (hbn.frozen (p := ⟨w.heap.size, 2, none⟩) (by simp)).trans F2; have k3 := (hbn.cell (p := ⟨w.heap.size, 3, none⟩) (by simp)).trans B3; have kf3 := (hbn.frozen (p := ⟨w.heap.size, 3, none⟩) (by simp)).trans F3)))
        go_wp2
        refine bodyPost_ret (v := .tuple #[.agg #[.int .i64 (x0 * 256 + x1), .int .i64 (x2 * 256 + x3), .bool true, .slice An (m - 8) cn], .int .i64 0]) (by simp [results, Try.results25, go_sem, k0, k1, k2, k3]) rfl (HF.out ⟨0, _, _, _, _⟩ An (m - 8) cn _ HP.out HB.out (Rd.of_own (ownsRow_setCell_below (ownsRow_setCell_below (ownsRow_setCell_below (ownsRow_setCell_below hownn (a := ⟨w.heap.size, 0, none⟩) (by simp) (.int .i64 (x0 * 256 + x1))) (a := ⟨w.heap.size, 1, none⟩) (by simp) (.int .i64 (x2 * 256 + x3))) (a := ⟨w.heap.size, 2, none⟩) (by simp) (.bool true)) (a := ⟨w.heap.size, 3, none⟩) (by simp) (.slice An _ cn))) ?_)
        exact ((((bel_then (below_drewN hbw _) hbn).setCell (Nat.le_refl _) _).setCell (Nat.le_refl _) _).setCell (Nat.le_refl _) _).setCell (Nat.le_refl _) _
    · have hk2 : (x6 * 256 + x7 != 0) = true := by rw [bne_iff_ne]; exact hk
      have hk3 : (x6 * 256 + x7 == 0) = false := by rw [beq_eq_false_iff_ne]; exact hk
      by_cases hq : Udp.sum s d (l.take m) = 65535
      · have hq2 : (Udp.sum s d (l.take m) != 65535) = false := by rw [bne_eq_false_iff_eq]; exact hq
        have hp : Udp.parse s d l = ⟨0, x0 * 256 + x1, x2 * 256 + x3, false, (l.drop 8).take (m - 8)⟩ := by
          unfold Udp.parse
          rw [if_neg (by omega), hsz, if_neg (by omega), HCK.out, hm, show ((m : Int)).toNat = m from rfl, if_neg (by rintro ⟨_, h⟩; exact h hq), g0.out, g1.out, g2.out, g3.out]
          simp [hbody, hk]
        have hblen : ((l.drop 8).take (m - 8)).length = m - 8 := by simp; omega
        have HP := Lib.hid hp
        have HB := Lib.hid hblen
        clear hp hblen hbody hm' hsz hl hs1' hRb hq
        by_cases hc8 : c = 8
        · obtain rfl : m = 8 := by omega
          obtain rfl : n = 8 := by omega
          subst hc8
          simp only [Nat.sub_self, List.take_zero] at HP HB hRd
          clear hRd
          go_enter Try.func25, Try.ntmps25
          go_wp2
          go_quiet ((first | (with_reducible exact HG4.out _) | (with_reducible exact HG6.out _)))
          go_wp2_with (go_at_call 35; refine (udp_sum _ _ _ _ s d _ (by exact hRm) hBm (by omega) hs0 hs1 hd0 hd1).mono ?_; rintro e w' ⟨rfl, rfl⟩)
          go_region_held3 (fun _ => True) (trivial)
            ((first
              | (go_at_call 34; (with_reducible refine (udp_get b off 8 8 x0 x1 _ ?_ ?_ ?_ p0 q0 p1 q1).mono ?_); omega; exact e0; exact e1; rintro e wn ⟨rfl, q, rfl⟩)
              | (go_at_call 34; (with_reducible refine (udp_get b (off + 2) 6 6 x2 x3 _ ?_ ?_ ?_ p2 q2 p3 q3).mono ?_); omega; exact e2; exact e3; rintro e wn ⟨rfl, q, rfl⟩)
              | (go_at_call 36; (refine (bytes_clone _ _ _ [] _ (Rd.nil_ _) (by omega)).mono ?_); rintro e wn ⟨An, cn, rfl, hownn, hbn⟩; have k0 := (hbn.cell (p := ⟨w.heap.size, 0, none⟩) (by simp)).trans B0; have kf0 := (hbn.frozen (p := ⟨w.heap.size, 0, none⟩) (by simp)).trans F0; have k1 := (hbn.cell (p := ⟨w.heap.size, 1, none⟩) (by simp)).trans B1; have kf1 := (hbn.frozen (p := ⟨w.heap.size, 1, none⟩) (by simp)).trans F1; have k2 := (hbn.cell (p := ⟨w.heap.size, 2, none⟩) (by simp)).trans B2; have kf2 := (hbn.frozen (p := ⟨w.heap.size, 2, none⟩) (by simp)).trans F2; have k3 := (hbn.cell (p := ⟨w.heap.size, 3, none⟩) (by simp)).trans B3; have kf3 := (hbn.frozen (p := ⟨w.heap.size, 3, none⟩) (by simp)).trans F3)))
          go_wp2
          refine bodyPost_ret (v := .tuple #[.agg #[.int .i64 (x0 * 256 + x1), .int .i64 (x2 * 256 + x3), .bool false, .slice An 0 cn], .int .i64 0]) (by simp [results, Try.results25, go_sem, k0, k1, k2, k3]) rfl (HF.out ⟨0, _, _, _, _⟩ An 0 cn _ HP.out HB.out (Rd.of_own (ownsRow_setCell_below (ownsRow_setCell_below (ownsRow_setCell_below (ownsRow_setCell_below hownn (a := ⟨w.heap.size, 0, none⟩) (by simp) (.int .i64 (x0 * 256 + x1))) (a := ⟨w.heap.size, 1, none⟩) (by simp) (.int .i64 (x2 * 256 + x3))) (a := ⟨w.heap.size, 2, none⟩) (by simp) (.bool false)) (a := ⟨w.heap.size, 3, none⟩) (by simp) (.slice An _ cn))) ?_)
          exact ((((bel_then (below_drewN hbw _) hbn).setCell (Nat.le_refl _) _).setCell (Nat.le_refl _) _).setCell (Nat.le_refl _) _).setCell (Nat.le_refl _) _
        · have hmc : (m : Int) ≤ (c : Int) := by omega
          have hn2' : (2 : Int) ≤ (n : Int) := by omega
          go_enter Try.func25, Try.ntmps25
          go_wp2
          go_quiet ((first | (with_reducible exact HG4.out _) | (with_reducible exact HG6.out _)))
          go_wp2_with (go_at_call 35; refine (udp_sum _ _ _ _ s d _ (by exact hRm) hBm (by omega) hs0 hs1 hd0 hd1).mono ?_; rintro e w' ⟨rfl, rfl⟩)
          go_region_held3 (fun _ => True) (trivial)
            ((first
              | (go_at_call 34; (with_reducible refine (udp_get b off n c x0 x1 _ ?_ ?_ ?_ p0 q0 p1 q1).mono ?_); omega; exact e0; exact e1; rintro e wn ⟨rfl, q, rfl⟩)
              | (go_at_call 34; (with_reducible refine (udp_get b (off + 2) (n - 2) (c - 2) x2 x3 _ ?_ ?_ ?_ p2 q2 p3 q3).mono ?_); omega; exact e2; exact e3; rintro e wn ⟨rfl, q, rfl⟩)
              | (go_at_call 36; (refine (bytes_clone _ _ _ _ _ (by exact hRd) (by omega)).mono ?_); rintro e wn ⟨An, cn, rfl, hownn, hbn⟩; have k0 := (hbn.cell (p := ⟨w.heap.size, 0, none⟩) (by simp)).trans B0; have kf0 := (hbn.frozen (p := ⟨w.heap.size, 0, none⟩) (by simp)).trans F0; have k1 := (hbn.cell (p := ⟨w.heap.size, 1, none⟩) (by simp)).trans B1; have kf1 := (hbn.frozen (p := ⟨w.heap.size, 1, none⟩) (by simp)).trans F1; have k2 := (hbn.cell (p := ⟨w.heap.size, 2, none⟩) (by simp)).trans B2; have kf2 := (hbn.frozen (p := ⟨w.heap.size, 2, none⟩) (by simp)).trans F2; have k3 := (hbn.cell (p := ⟨w.heap.size, 3, none⟩) (by simp)).trans B3; have kf3 := (hbn.frozen (p := ⟨w.heap.size, 3, none⟩) (by simp)).trans F3)))
          go_wp2
          refine bodyPost_ret (v := .tuple #[.agg #[.int .i64 (x0 * 256 + x1), .int .i64 (x2 * 256 + x3), .bool false, .slice An (m - 8) cn], .int .i64 0]) (by simp [results, Try.results25, go_sem, k0, k1, k2, k3]) rfl (HF.out ⟨0, _, _, _, _⟩ An (m - 8) cn _ HP.out HB.out (Rd.of_own (ownsRow_setCell_below (ownsRow_setCell_below (ownsRow_setCell_below (ownsRow_setCell_below hownn (a := ⟨w.heap.size, 0, none⟩) (by simp) (.int .i64 (x0 * 256 + x1))) (a := ⟨w.heap.size, 1, none⟩) (by simp) (.int .i64 (x2 * 256 + x3))) (a := ⟨w.heap.size, 2, none⟩) (by simp) (.bool false)) (a := ⟨w.heap.size, 3, none⟩) (by simp) (.slice An _ cn))) ?_)
          exact ((((bel_then (below_drewN hbw _) hbn).setCell (Nat.le_refl _) _).setCell (Nat.le_refl _) _).setCell (Nat.le_refl _) _).setCell (Nat.le_refl _) _
      · have hq2 : (Udp.sum s d (l.take m) != 65535) = true := by rw [bne_iff_ne]; exact hq
        have hp : Udp.parse s d l = ⟨5, 0, 0, false, []⟩ := by
          unfold Udp.parse
          rw [if_neg (by omega), hsz, if_neg (by omega), HCK.out, hm, show ((m : Int)).toNat = m from rfl, if_pos ⟨hk, hq⟩]
        have HP := Lib.hid hp
        have hmc : (m : Int) ≤ (c : Int) := by omega
        clear hp hbody hm' hsz hl hs1' hRb hq
        go_enter Try.func25, Try.ntmps25
        go_wp2
        go_quiet ((first | (with_reducible exact HG4.out _) | (with_reducible exact HG6.out _)))
        go_wp2_with (go_at_call 35; refine (udp_sum _ _ _ _ s d _ (by exact hRm) hBm (by omega) hs0 hs1 hd0 hd1).mono ?_; rintro e w' ⟨rfl, rfl⟩)
        refine bodyPost_ret (v := .tuple #[.agg #[.int .i64 0, .int .i64 0, .bool false, .slice none 0 0], .int .i64 5]) (by simp [results, Try.results25, go_sem]) rfl (HF.out ⟨5, 0, 0, false, []⟩ none 0 0 _ HP.out rfl (Rd.nil_ _) ?_)
        exact (by repeat (first | exact Below.refl _ _ | exact Nat.le_refl _ | refine below_drewN ?_ _ | refine Below.setCell ?_ ?_ _ | refine Below.alloc ?_ ?_ _ | (simp; done)))
end Go.Proofs.Ytodcbejdlnikgaa
