/- The walk of the law StateCloses (printed by tools/gen_closes.py). -/
import Derived.Test.YtliibpajgdncpaaStateAwake
import Derived.Test.YtliibpajgdncpaaStateClosesP
import Derived.Deep.LoopGhost
namespace Go.Proofs.Ytliibpajgdncpaa
open Go.RowKit
set_option linter.unusedVariables false
theorem QS (w : World) (o : Obj) : w.heap.size < (w.alloc o).drew.heap.size := by show w.heap.size < (w.alloc o).heap.size; simp
theorem cellsN {w : World} {g : Nat} {T : TypeId} {xs : List Value} (o : Nat) (x0 x1 x2 x3 x4 x5 x6 x7 x8 x9 : Value) (h : Blk w g T xs) (e : xs.drop o = x0 :: x1 :: x2 :: x3 :: x4 :: x5 :: x6 :: x7 :: x8 :: x9 :: xs.drop (o + 10)) :
    w.cell? ⟨g, o, none⟩ = some x0 ∧ w.cell? ⟨g, o + 1, none⟩ = some x1 ∧ w.cell? ⟨g, o + 2, none⟩ = some x2 ∧ w.cell? ⟨g, o + 3, none⟩ = some x3 ∧ w.cell? ⟨g, o + 4, none⟩ = some x4 ∧ w.cell? ⟨g, o + 5, none⟩ = some x5 ∧ w.cell? ⟨g, o + 6, none⟩ = some x6 ∧ w.cell? ⟨g, o + 7, none⟩ = some x7 ∧ w.cell? ⟨g, o + 8, none⟩ = some x8 ∧ w.cell? ⟨g, o + 9, none⟩ = some x9 := by
  have hh : ∀ j, xs[o + j]? = (xs.drop o)[j]? := fun j => by rw [List.getElem?_drop]
  refine ⟨h.cell ?_, h.cell ?_, h.cell ?_, h.cell ?_, h.cell ?_, h.cell ?_, h.cell ?_, h.cell ?_, h.cell ?_, h.cell ?_⟩
  · have := hh 0; rw [Nat.add_zero] at this; rw [this, e]; rfl
  all_goals (rw [hh, e]; rfl)
def words0 (a b n m : Int) : List Value := [.int .i64 0, .int .i64 0, .int .i64 0, .int .u32 a, .int .u32 0, .int .i64 2, .int .i64 0, .int .i64 0, .slice none 0 0, .slice none 0 0, .int .i64 1, .int .i64 0, .int .i64 0, .int .u32 b, .int .u32 n, .int .i64 18, .int .i64 0, .int .i64 0, .slice none 0 0, .slice none 0 0, .int .i64 0, .int .i64 0, .int .i64 0, .int .u32 n, .int .u32 m, .int .i64 16, .int .i64 0, .int .i64 0, .slice none 0 0, .slice none 0 0, .int .i64 0, .int .i64 0, .int .i64 0, .int .u32 n, .int .u32 m, .int .i64 17, .int .i64 0, .int .i64 0, .slice none 0 0, .slice none 0 0, .int .i64 1, .int .i64 0, .int .i64 0, .int .u32 m, .int .u32 ((n + 1) % 4294967296), .int .i64 16, .int .i64 0, .int .i64 0, .slice none 0 0, .slice none 0 0, .int .i64 1, .int .i64 0, .int .i64 0, .int .u32 m, .int .u32 ((n + 1) % 4294967296), .int .i64 17, .int .i64 0, .int .i64 0, .slice none 0 0, .slice none 0 0, .int .i64 0, .int .i64 0, .int .i64 0, .int .u32 ((n + 1) % 4294967296), .int .u32 ((m + 1) % 4294967296), .int .i64 16, .int .i64 0, .int .i64 0, .slice none 0 0, .slice none 0 0]
/-- the k-th word, and what it does -/
theorem round0 (a b n m : Int) (k : Nat) (hk : k < 7) : ∃ (c d : State.C) (sd sq ak fl : Int), State.conn0 n m k = c ∧ State.conn0 n m (k + 1) = d ∧ State.step c (State.said sd sq ak fl 0) = (d, true) ∧
    (words0 a b n m).drop (k * 10) = .int .i64 sd :: .int .i64 0 :: .int .i64 0 :: .int .u32 sq :: .int .u32 ak :: .int .i64 fl :: .int .i64 0 :: .int .i64 0 :: .slice none 0 0 :: .slice none 0 0 :: (words0 a b n m).drop (k * 10 + 10) ∧
    ([.int .i64 1, .int .i64 2, .int .i64 3, .int .i64 4, .int .i64 4, .int .i64 5, .int .i64 6] : List Value)[k]? = some (.int .i64 d.st) := by
  rcases (show k = 0 ∨ k = 1 ∨ k = 2 ∨ k = 3 ∨ k = 4 ∨ k = 5 ∨ k = 6 by omega) with rfl | rfl | rfl | rfl | rfl | rfl | rfl
  · exact ⟨_, _, 0, a, 0, 2, rfl, rfl, State.c0_0 a n m, rfl, rfl⟩
  · exact ⟨_, _, 1, b, n, 18, rfl, rfl, State.c0_1 b n m, rfl, rfl⟩
  · exact ⟨_, _, 0, n, m, 16, rfl, rfl, State.c0_2 n m, rfl, rfl⟩
  · exact ⟨_, _, 0, n, m, 17, rfl, rfl, State.c0_3 n m, rfl, rfl⟩
  · exact ⟨_, _, 1, m, ((n + 1) % 4294967296), 16, rfl, rfl, State.c0_4 n m, rfl, rfl⟩
  · exact ⟨_, _, 1, m, ((n + 1) % 4294967296), 17, rfl, rfl, State.c0_5 n m, rfl, rfl⟩
  · exact ⟨_, _, 0, ((n + 1) % 4294967296), ((m + 1) % 4294967296), 16, rfl, rfl, State.c0_6 n m, rfl, rfl⟩
set_option maxRecDepth 8000 in
set_option maxHeartbeats 10000000 in
theorem closes_walk0 (a b : Int) (w : World) (ha : 0 ≤ a ∧ a ≤ 4294967295) (hb : 0 ≤ b ∧ b ≤ 4294967295) :
    Calls Try.prog 6 #[.int .u32 a, .int .u32 b, .bool false] w fun e w' => e = .returned (.bool true) ∧ Below w.heap.size w w' := by
  obtain ⟨ha0, ha1⟩ := ha
  obtain ⟨hb0, hb1⟩ := hb
  have e1 : IntKind.i64.wrap (1 - 0) = 1 := by decide
  have e2 : IntKind.i64.wrap 1 = 1 := by decide
  go_enter Try.func6, Try.ntmps6
  go_wp2_with fail
  refine (sawake w).mono ?_
  rintro e w1 ⟨rfl, hb1⟩
  go_wp2_with fail
  go_region_held3 (fun w' => w'.cell? ⟨w1.heap.size, 0, none⟩ = some (.int .u32 ((a + 1) % 4294967296)) ∧ w'.cell? ⟨w1.heap.size, 1, none⟩ = some (.int .u32 ((b + 1) % 4294967296))) (go_keep) (fail)
  go_wp2_with fail
  go_loopg [12] 7 (fun gg i wr => ∃ k : Nat, k ≤ 7 ∧ 7 - k ≤ gg ∧ i = .int .i64 k ∧ Below w.heap.size w wr ∧ w1.heap.size + 4 ≤ wr.heap.size ∧ Blk wr (w1.heap.size + 1 + 1 + 1) 26 (State.conn0 ((a + 1) % 4294967296) ((b + 1) % 4294967296) k).cells ∧ Blk wr (w1.heap.size + 1) 40 (words0 a b ((a + 1) % 4294967296) ((b + 1) % 4294967296)) ∧ Blk wr (w1.heap.size + 1 + 1) 43 [.int .i64 1, .int .i64 2, .int .i64 3, .int .i64 4, .int .i64 4, .int .i64 5, .int .i64 6] ∧ Blk wr w1.heap.size 24 [.int .u32 ((a + 1) % 4294967296), .int .u32 ((b + 1) % 4294967296)])
  case atStart =>
    have hs1 := hb1.size
    refine ⟨0, by omega, by omega, rfl, ?_, ?_, ?_, ?_, ?_, ?_⟩
    · exact (by repeat (first | with_reducible exact hb1 | with_reducible refine Below.drew ?_ | with_reducible refine Below.drewN ?_ _ | with_reducible refine Below.alloc ?_ (by first | omega | (simp <;> omega)) _))
    · simp
    · exact (by repeat (first | with_reducible refine Blk.drew ?_ | exact Blk.new _ _ (State.conn0 ((a + 1) % 4294967296) ((b + 1) % 4294967296) 0).cells _ (by simp) | with_reducible refine Blk.alloc ?_ _))
    · refine Blk.drew (Blk.alloc (Blk.alloc ?_ _) _)
      refine Blk.as (Blk.new _ _ _ _ ?_) ?_
      · simp
      · have q1 : (a + 1 + 1) % 4294967296 = ((a + 1) % 4294967296 + 1) % 4294967296 := by omega
        have q2 : (b + 1 + 1) % 4294967296 = ((b + 1) % 4294967296 + 1) % 4294967296 := by omega
        rw [q1, q2]
        rfl
    · exact (by repeat (first | with_reducible refine Blk.drew ?_ | exact Blk.new _ _ [.int .i64 1, .int .i64 2, .int .i64 3, .int .i64 4, .int .i64 4, .int .i64 5, .int .i64 6] _ (by simp) | with_reducible refine Blk.alloc ?_ _))
    · exact (by repeat (first | with_reducible refine Blk.drew ?_ | exact Blk.new _ _ [.int .u32 ((a + 1) % 4294967296), .int .u32 ((b + 1) % 4294967296)] _ (by simp) | with_reducible refine Blk.alloc ?_ _))
  case round =>
    obtain ⟨k, hk, hgk, rfl, hbr, hsr, BC, BL, BW, BN⟩ := hrel
    by_cases hlt : k < 7
    · obtain ⟨c, d, sd, sq, ak, fl, hc, hd, hst, hw, hwt⟩ := round0 a b ((a + 1) % 4294967296) ((b + 1) % 4294967296) k hlt
      rw [hc] at BC
      have HD := Lib.hid hd
      have HWT := Lib.hid hwt
      have l0 := fun w' (h : Blk w' (w1.heap.size + 1) 40 (words0 a b ((a + 1) % 4294967296) ((b + 1) % 4294967296))) => cellsN (k * 10) (.int .i64 sd) (.int .i64 0) (.int .i64 0) (.int .u32 sq) (.int .u32 ak) (.int .i64 fl) (.int .i64 0) (.int .i64 0) (.slice none 0 0) (.slice none 0 0) h hw
      have HST : ∀ w, Calls Try.prog 12 #[.agg #[.int .i64 c.st, .bool c.f0, .bool c.f1, .int .u32 c.a0, .int .u32 c.a1, .bool c.k0, .bool c.k1], .int .i64 sd, .agg #[.int .i64 0, .int .i64 0, .int .u32 sq, .int .u32 ak, .int .i64 fl, .int .i64 0, .int .i64 0, .slice none 0 0, .slice none 0 0]] w fun e w' => e = .returned (.tuple #[.agg #[.int .i64 d.st, .bool d.f0, .bool d.f1, .int .u32 d.a0, .int .u32 d.a1, .bool d.k0, .bool d.k1], .bool true]) ∧ Below w.heap.size w w' := fun w => step_at c d true sd 0 0 sq ak fl 0 0 none 0 0 none 0 0 w (by omega) hst
      have KS : Hid (∀ w' : World, Blk w' (w1.heap.size + 1 + 1 + 1) 26 c.cells → Blk w' (w1.heap.size + 1) 40 (words0 a b ((a + 1) % 4294967296) ((b + 1) % 4294967296)) → (w'.cell? ⟨w1.heap.size + 1 + 1 + 1, 0, none⟩ = some (.int .i64 c.st) ∧ w'.cell? ⟨w1.heap.size + 1 + 1 + 1, 1, none⟩ = some (.bool c.f0) ∧ w'.cell? ⟨w1.heap.size + 1 + 1 + 1, 2, none⟩ = some (.bool c.f1) ∧ w'.cell? ⟨w1.heap.size + 1 + 1 + 1, 3, none⟩ = some (.int .u32 c.a0) ∧ w'.cell? ⟨w1.heap.size + 1 + 1 + 1, 4, none⟩ = some (.int .u32 c.a1) ∧ w'.cell? ⟨w1.heap.size + 1 + 1 + 1, 5, none⟩ = some (.bool c.k0) ∧ w'.cell? ⟨w1.heap.size + 1 + 1 + 1, 6, none⟩ = some (.bool c.k1)) ∧ w'.cell? ⟨w1.heap.size + 1, k * 10, none⟩ = some (.int .i64 sd) ∧ w'.cell? ⟨w1.heap.size + 1, k * 10 + 1, none⟩ = some (.int .i64 0) ∧ w'.cell? ⟨w1.heap.size + 1, k * 10 + 2, none⟩ = some (.int .i64 0) ∧ w'.cell? ⟨w1.heap.size + 1, k * 10 + 3, none⟩ = some (.int .u32 sq) ∧ w'.cell? ⟨w1.heap.size + 1, k * 10 + 4, none⟩ = some (.int .u32 ak) ∧ w'.cell? ⟨w1.heap.size + 1, k * 10 + 5, none⟩ = some (.int .i64 fl) ∧ w'.cell? ⟨w1.heap.size + 1, k * 10 + 6, none⟩ = some (.int .i64 0) ∧ w'.cell? ⟨w1.heap.size + 1, k * 10 + 7, none⟩ = some (.int .i64 0) ∧ w'.cell? ⟨w1.heap.size + 1, k * 10 + 8, none⟩ = some (.slice none 0 0) ∧ w'.cell? ⟨w1.heap.size + 1, k * 10 + 9, none⟩ = some (.slice none 0 0)) := Lib.hid (fun w' h1 h2 => And.intro (cells7 h1) (l0 w' h2))
      have KL : w1.heap.size < wr.heap.size := by omega
      have KL1 : w1.heap.size + 1 < wr.heap.size := by omega
      have i0 : (0 : Int) ≤ (k : Int) := by omega
      have i1 : (k : Int) < 7 := by omega
      obtain ⟨⟨b0, b1, b2, b3, b4, b5, b6⟩, l0, l1, l2, l3, l4, l5, l6, l7, l8, l9⟩ := KS.out _ BC BL
      clear hc hd hst hw hwt
      go_upto_region 13 with (fail)
      go_cut [13, 14] (fun s13 s14 wx => ∃ g, s13 = .pointer (some ⟨g, 0, none⟩) ∧ s14 = .bool true ∧ Below w.heap.size w wx ∧ w1.heap.size + 4 ≤ wx.heap.size ∧ w1.heap.size + 4 ≤ g ∧ Blk wx g 26 [.int .i64 d.st, .bool d.f0, .bool d.f1, .int .u32 d.a0, .int .u32 d.a1, .bool d.k0, .bool d.k1] ∧ Blk wx (w1.heap.size + 1 + 1 + 1) 26 c.cells ∧ Blk wx (w1.heap.size + 1) 40 (words0 a b ((a + 1) % 4294967296) ((b + 1) % 4294967296)) ∧ Blk wx (w1.heap.size + 1 + 1) 43 [.int .i64 1, .int .i64 2, .int .i64 3, .int .i64 4, .int .i64 4, .int .i64 5, .int .i64 6] ∧ Blk wx w1.heap.size 24 [.int .u32 ((a + 1) % 4294967296), .int .u32 ((b + 1) % 4294967296)])
      case first =>
        as_aux_lemma =>
        go_region_held3 (fun w' => (w'.cell? ⟨w1.heap.size + 1 + 1 + 1, 0, none⟩ = some (.int .i64 c.st) ∧ w'.cell? ⟨w1.heap.size + 1 + 1 + 1, 1, none⟩ = some (.bool c.f0) ∧ w'.cell? ⟨w1.heap.size + 1 + 1 + 1, 2, none⟩ = some (.bool c.f1) ∧ w'.cell? ⟨w1.heap.size + 1 + 1 + 1, 3, none⟩ = some (.int .u32 c.a0) ∧ w'.cell? ⟨w1.heap.size + 1 + 1 + 1, 4, none⟩ = some (.int .u32 c.a1) ∧ w'.cell? ⟨w1.heap.size + 1 + 1 + 1, 5, none⟩ = some (.bool c.k0) ∧ w'.cell? ⟨w1.heap.size + 1 + 1 + 1, 6, none⟩ = some (.bool c.k1)) ∧ w'.cell? ⟨w1.heap.size + 1, k * 10, none⟩ = some (.int .i64 sd) ∧ w'.cell? ⟨w1.heap.size + 1, k * 10 + 1, none⟩ = some (.int .i64 0) ∧ w'.cell? ⟨w1.heap.size + 1, k * 10 + 2, none⟩ = some (.int .i64 0) ∧ w'.cell? ⟨w1.heap.size + 1, k * 10 + 3, none⟩ = some (.int .u32 sq) ∧ w'.cell? ⟨w1.heap.size + 1, k * 10 + 4, none⟩ = some (.int .u32 ak) ∧ w'.cell? ⟨w1.heap.size + 1, k * 10 + 5, none⟩ = some (.int .i64 fl) ∧ w'.cell? ⟨w1.heap.size + 1, k * 10 + 6, none⟩ = some (.int .i64 0) ∧ w'.cell? ⟨w1.heap.size + 1, k * 10 + 7, none⟩ = some (.int .i64 0) ∧ w'.cell? ⟨w1.heap.size + 1, k * 10 + 8, none⟩ = some (.slice none 0 0) ∧ w'.cell? ⟨w1.heap.size + 1, k * 10 + 9, none⟩ = some (.slice none 0 0)) (exact KS.out _ (by repeat (first | with_reducible exact BC | with_reducible refine Blk.drew ?_ | with_reducible refine Blk.alloc ?_ _ | with_reducible refine Blk.other ?_ (by simp <;> omega) _ | with_reducible refine Blk.later ?_ hb2)) (by repeat (first | with_reducible exact BL | with_reducible refine Blk.drew ?_ | with_reducible refine Blk.alloc ?_ _ | with_reducible refine Blk.other ?_ (by simp <;> omega) _ | with_reducible refine Blk.later ?_ hb2))) ((go_at_call 12; refine (HST _).mono ?_; rintro e w2 ⟨rfl, hb2⟩; first | (have qs : wr.heap.size < (wr.alloc (.cells #[.int .i64 0, .bool false, .bool false, .int .u32 0, .int .u32 0, .bool false, .bool false] 26)).drew.heap.size := QS wr _; have q1 := fun i => hb2.cell (p := ⟨wr.heap.size, i, none⟩) qs; have q2 := fun i => hb2.frozen (p := ⟨wr.heap.size, i, none⟩) qs; clear qs) | skip))
        all_goals
          go_wp2_with fail
          go_meet
          have hs2 := hb2.size
          simp at hs2
          have hs1 := hb1.size
          refine ⟨_, rfl, rfl, ?_, ?_, ?_, ?_, ?_, ?_, ?_, ?_⟩
          · exact (by repeat (first | with_reducible exact hbr | with_reducible refine Below.drew ?_ | with_reducible refine Below.alloc ?_ (by first | omega | (simp <;> omega)) _ | with_reducible refine Below.setCell ?_ (by first | omega | (simp <;> omega)) _ | refine Below.trans ?_ (hb2.mono (by first | omega | (simp <;> omega)))))
          · first | omega | (simp; omega)
          · first | omega | (simp; omega)
          · first | with_reducible exact Blk.new w2 _ [.int .i64 d.st, .bool d.f0, .bool d.f1, .int .u32 d.a0, .int .u32 d.a1, .bool d.k0, .bool d.k1] _ rfl | exact Blk.put7 ((Blk.drew (Blk.new wr _ [.int .i64 0, .bool false, .bool false, .int .u32 0, .int .u32 0, .bool false, .bool false] _ rfl)).later hb2)
          · exact (by repeat (first | with_reducible exact BC | with_reducible refine Blk.drew ?_ | with_reducible refine Blk.alloc ?_ _ | with_reducible refine Blk.other ?_ (by simp <;> omega) _ | with_reducible refine Blk.later ?_ hb2))
          · exact (by repeat (first | with_reducible exact BL | with_reducible refine Blk.drew ?_ | with_reducible refine Blk.alloc ?_ _ | with_reducible refine Blk.other ?_ (by simp <;> omega) _ | with_reducible refine Blk.later ?_ hb2))
          · exact (by repeat (first | with_reducible exact BW | with_reducible refine Blk.drew ?_ | with_reducible refine Blk.alloc ?_ _ | with_reducible refine Blk.other ?_ (by simp <;> omega) _ | with_reducible refine Blk.later ?_ hb2))
          · exact (by repeat (first | with_reducible exact BN | with_reducible refine Blk.drew ?_ | with_reducible refine Blk.alloc ?_ _ | with_reducible refine Blk.other ?_ (by simp <;> omega) _ | with_reducible refine Blk.later ?_ hb2))
      case rest =>
        obtain ⟨g, rfl, rfl, hbx, hsx, hgx, BM, BCy, BLy, BWy, BNy⟩ := hcut
        clear HST KS BC BL BW BN b0 b1 b2 b3 b4 b5 b6 l0 l1 l2 l3 l4 l5 l6 l7 l8 l9 hbr hsr KL KL1
        obtain ⟨d0, d1, d2, d3, d4, d5, d6⟩ := cells7 BM
        obtain ⟨b0, b1, b2, b3, b4, b5, b6⟩ := cells7 BCy
        obtain ⟨z0, z1, z2, z3, z4, z5, z6⟩ := frozen7 BCy
        have wk := BWy.cell HWT.out
        have hne : ¬ g = w1.heap.size + 1 + 1 + 1 := by omega
        have hne' : ¬ w1.heap.size + 1 + 1 + 1 = g := by omega
        have hz : (d.st != d.st) = false := by simp
        go_wp2_with fail
        go_quiet (fail)
        go_wp2_with fail
        go_roundg (7 - (k + 1))
        case measure => omega
        case rel =>
          have hs1 := hb1.size
          refine ⟨k + 1, by omega, by omega, by go_num, ?_, ?_, ?_, ?_, ?_, ?_⟩
          · exact Below.put7 (Below.drewN hbx _) (by omega)
          · simpa using hsx
          · rw [HD.out]; exact Blk.put7 (Blk.drewN BCy _)
          · exact (by repeat (first | with_reducible exact BLy | with_reducible refine Blk.drew ?_ | with_reducible refine Blk.drewN ?_ _ | with_reducible refine Blk.alloc ?_ _ | with_reducible refine Blk.other ?_ (by simp <;> omega) _))
          · exact (by repeat (first | with_reducible exact BWy | with_reducible refine Blk.drew ?_ | with_reducible refine Blk.drewN ?_ _ | with_reducible refine Blk.alloc ?_ _ | with_reducible refine Blk.other ?_ (by simp <;> omega) _))
          · exact (by repeat (first | with_reducible exact BNy | with_reducible refine Blk.drew ?_ | with_reducible refine Blk.drewN ?_ _ | with_reducible refine Blk.alloc ?_ _ | with_reducible refine Blk.other ?_ (by simp <;> omega) _))
    · obtain rfl : k = 7 := by omega
      have q1 : (a + 1 + 1) % 4294967296 = ((a + 1) % 4294967296 + 1) % 4294967296 := by omega
      have q2 : (b + 1 + 1) % 4294967296 = ((b + 1) % 4294967296 + 1) % 4294967296 := by omega
      have BCx : Blk wr (w1.heap.size + 1 + 1 + 1) 26 [.int .i64 6, .bool true, .bool true, .int .u32 ((a + 1 + 1) % 4294967296), .int .u32 ((b + 1 + 1) % 4294967296), .bool true, .bool true] := by rw [q1, q2]; exact BC
      clear q1 q2
      obtain ⟨b0, b1, b2, b3, b4, b5, b6⟩ := cells7 BCx
      have n0 := BN.cell (i := 0) rfl
      have n1 := BN.cell (i := 1) rfl
      go_wp2_with fail
      go_quiet (fail)
      go_wp2_with fail
      go_ret
      exact ⟨rfl, Below.drewN hbr _⟩
def words1 (a b n m : Int) : List Value := [.int .i64 0, .int .i64 0, .int .i64 0, .int .u32 a, .int .u32 0, .int .i64 2, .int .i64 0, .int .i64 0, .slice none 0 0, .slice none 0 0, .int .i64 1, .int .i64 0, .int .i64 0, .int .u32 b, .int .u32 n, .int .i64 18, .int .i64 0, .int .i64 0, .slice none 0 0, .slice none 0 0, .int .i64 0, .int .i64 0, .int .i64 0, .int .u32 n, .int .u32 m, .int .i64 16, .int .i64 0, .int .i64 0, .slice none 0 0, .slice none 0 0, .int .i64 1, .int .i64 0, .int .i64 0, .int .u32 m, .int .u32 n, .int .i64 17, .int .i64 0, .int .i64 0, .slice none 0 0, .slice none 0 0, .int .i64 0, .int .i64 0, .int .i64 0, .int .u32 n, .int .u32 ((m + 1) % 4294967296), .int .i64 16, .int .i64 0, .int .i64 0, .slice none 0 0, .slice none 0 0, .int .i64 0, .int .i64 0, .int .i64 0, .int .u32 n, .int .u32 ((m + 1) % 4294967296), .int .i64 17, .int .i64 0, .int .i64 0, .slice none 0 0, .slice none 0 0, .int .i64 1, .int .i64 0, .int .i64 0, .int .u32 ((m + 1) % 4294967296), .int .u32 ((n + 1) % 4294967296), .int .i64 16, .int .i64 0, .int .i64 0, .slice none 0 0, .slice none 0 0]
/-- the k-th word, and what it does -/
theorem round1 (a b n m : Int) (k : Nat) (hk : k < 7) : ∃ (c d : State.C) (sd sq ak fl : Int), State.conn1 n m k = c ∧ State.conn1 n m (k + 1) = d ∧ State.step c (State.said sd sq ak fl 0) = (d, true) ∧
    (words1 a b n m).drop (k * 10) = .int .i64 sd :: .int .i64 0 :: .int .i64 0 :: .int .u32 sq :: .int .u32 ak :: .int .i64 fl :: .int .i64 0 :: .int .i64 0 :: .slice none 0 0 :: .slice none 0 0 :: (words1 a b n m).drop (k * 10 + 10) ∧
    ([.int .i64 1, .int .i64 2, .int .i64 3, .int .i64 4, .int .i64 4, .int .i64 5, .int .i64 6] : List Value)[k]? = some (.int .i64 d.st) := by
  rcases (show k = 0 ∨ k = 1 ∨ k = 2 ∨ k = 3 ∨ k = 4 ∨ k = 5 ∨ k = 6 by omega) with rfl | rfl | rfl | rfl | rfl | rfl | rfl
  · exact ⟨_, _, 0, a, 0, 2, rfl, rfl, State.c1_0 a n m, rfl, rfl⟩
  · exact ⟨_, _, 1, b, n, 18, rfl, rfl, State.c1_1 b n m, rfl, rfl⟩
  · exact ⟨_, _, 0, n, m, 16, rfl, rfl, State.c1_2 n m, rfl, rfl⟩
  · exact ⟨_, _, 1, m, n, 17, rfl, rfl, State.c1_3 n m, rfl, rfl⟩
  · exact ⟨_, _, 0, n, ((m + 1) % 4294967296), 16, rfl, rfl, State.c1_4 n m, rfl, rfl⟩
  · exact ⟨_, _, 0, n, ((m + 1) % 4294967296), 17, rfl, rfl, State.c1_5 n m, rfl, rfl⟩
  · exact ⟨_, _, 1, ((m + 1) % 4294967296), ((n + 1) % 4294967296), 16, rfl, rfl, State.c1_6 n m, rfl, rfl⟩
set_option maxRecDepth 8000 in
set_option maxHeartbeats 10000000 in
theorem closes_walk1 (a b : Int) (w : World) (ha : 0 ≤ a ∧ a ≤ 4294967295) (hb : 0 ≤ b ∧ b ≤ 4294967295) :
    Calls Try.prog 6 #[.int .u32 a, .int .u32 b, .bool true] w fun e w' => e = .returned (.bool true) ∧ Below w.heap.size w w' := by
  obtain ⟨ha0, ha1⟩ := ha
  obtain ⟨hb0, hb1⟩ := hb
  have e1 : IntKind.i64.wrap (1 - 1) = 0 := by decide
  have e2 : IntKind.i64.wrap 0 = 0 := by decide
  go_enter Try.func6, Try.ntmps6
  go_wp2_with fail
  refine (sawake w).mono ?_
  rintro e w1 ⟨rfl, hb1⟩
  go_wp2_with fail
  go_region_held3 (fun w' => w'.cell? ⟨w1.heap.size, 0, none⟩ = some (.int .u32 ((a + 1) % 4294967296)) ∧ w'.cell? ⟨w1.heap.size, 1, none⟩ = some (.int .u32 ((b + 1) % 4294967296))) (go_keep) (fail)
  go_wp2_with fail
  go_loopg [12] 7 (fun gg i wr => ∃ k : Nat, k ≤ 7 ∧ 7 - k ≤ gg ∧ i = .int .i64 k ∧ Below w.heap.size w wr ∧ w1.heap.size + 4 ≤ wr.heap.size ∧ Blk wr (w1.heap.size + 1 + 1 + 1) 26 (State.conn1 ((a + 1) % 4294967296) ((b + 1) % 4294967296) k).cells ∧ Blk wr (w1.heap.size + 1) 40 (words1 a b ((a + 1) % 4294967296) ((b + 1) % 4294967296)) ∧ Blk wr (w1.heap.size + 1 + 1) 43 [.int .i64 1, .int .i64 2, .int .i64 3, .int .i64 4, .int .i64 4, .int .i64 5, .int .i64 6] ∧ Blk wr w1.heap.size 24 [.int .u32 ((a + 1) % 4294967296), .int .u32 ((b + 1) % 4294967296)])
  case atStart =>
    have hs1 := hb1.size
    refine ⟨0, by omega, by omega, rfl, ?_, ?_, ?_, ?_, ?_, ?_⟩
    · exact (by repeat (first | with_reducible exact hb1 | with_reducible refine Below.drew ?_ | with_reducible refine Below.drewN ?_ _ | with_reducible refine Below.alloc ?_ (by first | omega | (simp <;> omega)) _))
    · simp
    · exact (by repeat (first | with_reducible refine Blk.drew ?_ | exact Blk.new _ _ (State.conn1 ((a + 1) % 4294967296) ((b + 1) % 4294967296) 0).cells _ (by simp) | with_reducible refine Blk.alloc ?_ _))
    · refine Blk.drew (Blk.alloc (Blk.alloc ?_ _) _)
      refine Blk.as (Blk.new _ _ _ _ ?_) ?_
      · simp
      · have q1 : (a + 1 + 1) % 4294967296 = ((a + 1) % 4294967296 + 1) % 4294967296 := by omega
        have q2 : (b + 1 + 1) % 4294967296 = ((b + 1) % 4294967296 + 1) % 4294967296 := by omega
        rw [q1, q2]
        rfl
    · exact (by repeat (first | with_reducible refine Blk.drew ?_ | exact Blk.new _ _ [.int .i64 1, .int .i64 2, .int .i64 3, .int .i64 4, .int .i64 4, .int .i64 5, .int .i64 6] _ (by simp) | with_reducible refine Blk.alloc ?_ _))
    · exact (by repeat (first | with_reducible refine Blk.drew ?_ | exact Blk.new _ _ [.int .u32 ((a + 1) % 4294967296), .int .u32 ((b + 1) % 4294967296)] _ (by simp) | with_reducible refine Blk.alloc ?_ _))
  case round =>
    obtain ⟨k, hk, hgk, rfl, hbr, hsr, BC, BL, BW, BN⟩ := hrel
    by_cases hlt : k < 7
    · obtain ⟨c, d, sd, sq, ak, fl, hc, hd, hst, hw, hwt⟩ := round1 a b ((a + 1) % 4294967296) ((b + 1) % 4294967296) k hlt
      rw [hc] at BC
      have HD := Lib.hid hd
      have HWT := Lib.hid hwt
      have l0 := fun w' (h : Blk w' (w1.heap.size + 1) 40 (words1 a b ((a + 1) % 4294967296) ((b + 1) % 4294967296))) => cellsN (k * 10) (.int .i64 sd) (.int .i64 0) (.int .i64 0) (.int .u32 sq) (.int .u32 ak) (.int .i64 fl) (.int .i64 0) (.int .i64 0) (.slice none 0 0) (.slice none 0 0) h hw
      have HST : ∀ w, Calls Try.prog 12 #[.agg #[.int .i64 c.st, .bool c.f0, .bool c.f1, .int .u32 c.a0, .int .u32 c.a1, .bool c.k0, .bool c.k1], .int .i64 sd, .agg #[.int .i64 0, .int .i64 0, .int .u32 sq, .int .u32 ak, .int .i64 fl, .int .i64 0, .int .i64 0, .slice none 0 0, .slice none 0 0]] w fun e w' => e = .returned (.tuple #[.agg #[.int .i64 d.st, .bool d.f0, .bool d.f1, .int .u32 d.a0, .int .u32 d.a1, .bool d.k0, .bool d.k1], .bool true]) ∧ Below w.heap.size w w' := fun w => step_at c d true sd 0 0 sq ak fl 0 0 none 0 0 none 0 0 w (by omega) hst
      have KS : Hid (∀ w' : World, Blk w' (w1.heap.size + 1 + 1 + 1) 26 c.cells → Blk w' (w1.heap.size + 1) 40 (words1 a b ((a + 1) % 4294967296) ((b + 1) % 4294967296)) → (w'.cell? ⟨w1.heap.size + 1 + 1 + 1, 0, none⟩ = some (.int .i64 c.st) ∧ w'.cell? ⟨w1.heap.size + 1 + 1 + 1, 1, none⟩ = some (.bool c.f0) ∧ w'.cell? ⟨w1.heap.size + 1 + 1 + 1, 2, none⟩ = some (.bool c.f1) ∧ w'.cell? ⟨w1.heap.size + 1 + 1 + 1, 3, none⟩ = some (.int .u32 c.a0) ∧ w'.cell? ⟨w1.heap.size + 1 + 1 + 1, 4, none⟩ = some (.int .u32 c.a1) ∧ w'.cell? ⟨w1.heap.size + 1 + 1 + 1, 5, none⟩ = some (.bool c.k0) ∧ w'.cell? ⟨w1.heap.size + 1 + 1 + 1, 6, none⟩ = some (.bool c.k1)) ∧ w'.cell? ⟨w1.heap.size + 1, k * 10, none⟩ = some (.int .i64 sd) ∧ w'.cell? ⟨w1.heap.size + 1, k * 10 + 1, none⟩ = some (.int .i64 0) ∧ w'.cell? ⟨w1.heap.size + 1, k * 10 + 2, none⟩ = some (.int .i64 0) ∧ w'.cell? ⟨w1.heap.size + 1, k * 10 + 3, none⟩ = some (.int .u32 sq) ∧ w'.cell? ⟨w1.heap.size + 1, k * 10 + 4, none⟩ = some (.int .u32 ak) ∧ w'.cell? ⟨w1.heap.size + 1, k * 10 + 5, none⟩ = some (.int .i64 fl) ∧ w'.cell? ⟨w1.heap.size + 1, k * 10 + 6, none⟩ = some (.int .i64 0) ∧ w'.cell? ⟨w1.heap.size + 1, k * 10 + 7, none⟩ = some (.int .i64 0) ∧ w'.cell? ⟨w1.heap.size + 1, k * 10 + 8, none⟩ = some (.slice none 0 0) ∧ w'.cell? ⟨w1.heap.size + 1, k * 10 + 9, none⟩ = some (.slice none 0 0)) := Lib.hid (fun w' h1 h2 => And.intro (cells7 h1) (l0 w' h2))
      have KL : w1.heap.size < wr.heap.size := by omega
      have KL1 : w1.heap.size + 1 < wr.heap.size := by omega
      have i0 : (0 : Int) ≤ (k : Int) := by omega
      have i1 : (k : Int) < 7 := by omega
      obtain ⟨⟨b0, b1, b2, b3, b4, b5, b6⟩, l0, l1, l2, l3, l4, l5, l6, l7, l8, l9⟩ := KS.out _ BC BL
      clear hc hd hst hw hwt
      go_upto_region 13 with (fail)
      go_cut [13, 14] (fun s13 s14 wx => ∃ g, s13 = .pointer (some ⟨g, 0, none⟩) ∧ s14 = .bool true ∧ Below w.heap.size w wx ∧ w1.heap.size + 4 ≤ wx.heap.size ∧ w1.heap.size + 4 ≤ g ∧ Blk wx g 26 [.int .i64 d.st, .bool d.f0, .bool d.f1, .int .u32 d.a0, .int .u32 d.a1, .bool d.k0, .bool d.k1] ∧ Blk wx (w1.heap.size + 1 + 1 + 1) 26 c.cells ∧ Blk wx (w1.heap.size + 1) 40 (words1 a b ((a + 1) % 4294967296) ((b + 1) % 4294967296)) ∧ Blk wx (w1.heap.size + 1 + 1) 43 [.int .i64 1, .int .i64 2, .int .i64 3, .int .i64 4, .int .i64 4, .int .i64 5, .int .i64 6] ∧ Blk wx w1.heap.size 24 [.int .u32 ((a + 1) % 4294967296), .int .u32 ((b + 1) % 4294967296)])
      case first =>
        as_aux_lemma =>
        go_region_held3 (fun w' => (w'.cell? ⟨w1.heap.size + 1 + 1 + 1, 0, none⟩ = some (.int .i64 c.st) ∧ w'.cell? ⟨w1.heap.size + 1 + 1 + 1, 1, none⟩ = some (.bool c.f0) ∧ w'.cell? ⟨w1.heap.size + 1 + 1 + 1, 2, none⟩ = some (.bool c.f1) ∧ w'.cell? ⟨w1.heap.size + 1 + 1 + 1, 3, none⟩ = some (.int .u32 c.a0) ∧ w'.cell? ⟨w1.heap.size + 1 + 1 + 1, 4, none⟩ = some (.int .u32 c.a1) ∧ w'.cell? ⟨w1.heap.size + 1 + 1 + 1, 5, none⟩ = some (.bool c.k0) ∧ w'.cell? ⟨w1.heap.size + 1 + 1 + 1, 6, none⟩ = some (.bool c.k1)) ∧ w'.cell? ⟨w1.heap.size + 1, k * 10, none⟩ = some (.int .i64 sd) ∧ w'.cell? ⟨w1.heap.size + 1, k * 10 + 1, none⟩ = some (.int .i64 0) ∧ w'.cell? ⟨w1.heap.size + 1, k * 10 + 2, none⟩ = some (.int .i64 0) ∧ w'.cell? ⟨w1.heap.size + 1, k * 10 + 3, none⟩ = some (.int .u32 sq) ∧ w'.cell? ⟨w1.heap.size + 1, k * 10 + 4, none⟩ = some (.int .u32 ak) ∧ w'.cell? ⟨w1.heap.size + 1, k * 10 + 5, none⟩ = some (.int .i64 fl) ∧ w'.cell? ⟨w1.heap.size + 1, k * 10 + 6, none⟩ = some (.int .i64 0) ∧ w'.cell? ⟨w1.heap.size + 1, k * 10 + 7, none⟩ = some (.int .i64 0) ∧ w'.cell? ⟨w1.heap.size + 1, k * 10 + 8, none⟩ = some (.slice none 0 0) ∧ w'.cell? ⟨w1.heap.size + 1, k * 10 + 9, none⟩ = some (.slice none 0 0)) (exact KS.out _ (by repeat (first | with_reducible exact BC | with_reducible refine Blk.drew ?_ | with_reducible refine Blk.alloc ?_ _ | with_reducible refine Blk.other ?_ (by simp <;> omega) _ | with_reducible refine Blk.later ?_ hb2)) (by repeat (first | with_reducible exact BL | with_reducible refine Blk.drew ?_ | with_reducible refine Blk.alloc ?_ _ | with_reducible refine Blk.other ?_ (by simp <;> omega) _ | with_reducible refine Blk.later ?_ hb2))) ((go_at_call 12; refine (HST _).mono ?_; rintro e w2 ⟨rfl, hb2⟩; first | (have qs : wr.heap.size < (wr.alloc (.cells #[.int .i64 0, .bool false, .bool false, .int .u32 0, .int .u32 0, .bool false, .bool false] 26)).drew.heap.size := QS wr _; have q1 := fun i => hb2.cell (p := ⟨wr.heap.size, i, none⟩) qs; have q2 := fun i => hb2.frozen (p := ⟨wr.heap.size, i, none⟩) qs; clear qs) | skip))
        all_goals
          go_wp2_with fail
          go_meet
          have hs2 := hb2.size
          simp at hs2
          have hs1 := hb1.size
          refine ⟨_, rfl, rfl, ?_, ?_, ?_, ?_, ?_, ?_, ?_, ?_⟩
          · exact (by repeat (first | with_reducible exact hbr | with_reducible refine Below.drew ?_ | with_reducible refine Below.alloc ?_ (by first | omega | (simp <;> omega)) _ | with_reducible refine Below.setCell ?_ (by first | omega | (simp <;> omega)) _ | refine Below.trans ?_ (hb2.mono (by first | omega | (simp <;> omega)))))
          · first | omega | (simp; omega)
          · first | omega | (simp; omega)
          · first | with_reducible exact Blk.new w2 _ [.int .i64 d.st, .bool d.f0, .bool d.f1, .int .u32 d.a0, .int .u32 d.a1, .bool d.k0, .bool d.k1] _ rfl | exact Blk.put7 ((Blk.drew (Blk.new wr _ [.int .i64 0, .bool false, .bool false, .int .u32 0, .int .u32 0, .bool false, .bool false] _ rfl)).later hb2)
          · exact (by repeat (first | with_reducible exact BC | with_reducible refine Blk.drew ?_ | with_reducible refine Blk.alloc ?_ _ | with_reducible refine Blk.other ?_ (by simp <;> omega) _ | with_reducible refine Blk.later ?_ hb2))
          · exact (by repeat (first | with_reducible exact BL | with_reducible refine Blk.drew ?_ | with_reducible refine Blk.alloc ?_ _ | with_reducible refine Blk.other ?_ (by simp <;> omega) _ | with_reducible refine Blk.later ?_ hb2))
          · exact (by repeat (first | with_reducible exact BW | with_reducible refine Blk.drew ?_ | with_reducible refine Blk.alloc ?_ _ | with_reducible refine Blk.other ?_ (by simp <;> omega) _ | with_reducible refine Blk.later ?_ hb2))
          · exact (by repeat (first | with_reducible exact BN | with_reducible refine Blk.drew ?_ | with_reducible refine Blk.alloc ?_ _ | with_reducible refine Blk.other ?_ (by simp <;> omega) _ | with_reducible refine Blk.later ?_ hb2))
      case rest =>
        obtain ⟨g, rfl, rfl, hbx, hsx, hgx, BM, BCy, BLy, BWy, BNy⟩ := hcut
        clear HST KS BC BL BW BN b0 b1 b2 b3 b4 b5 b6 l0 l1 l2 l3 l4 l5 l6 l7 l8 l9 hbr hsr KL KL1
        obtain ⟨d0, d1, d2, d3, d4, d5, d6⟩ := cells7 BM
        obtain ⟨b0, b1, b2, b3, b4, b5, b6⟩ := cells7 BCy
        obtain ⟨z0, z1, z2, z3, z4, z5, z6⟩ := frozen7 BCy
        have wk := BWy.cell HWT.out
        have hne : ¬ g = w1.heap.size + 1 + 1 + 1 := by omega
        have hne' : ¬ w1.heap.size + 1 + 1 + 1 = g := by omega
        have hz : (d.st != d.st) = false := by simp
        go_wp2_with fail
        go_quiet (fail)
        go_wp2_with fail
        go_roundg (7 - (k + 1))
        case measure => omega
        case rel =>
          have hs1 := hb1.size
          refine ⟨k + 1, by omega, by omega, by go_num, ?_, ?_, ?_, ?_, ?_, ?_⟩
          · exact Below.put7 (Below.drewN hbx _) (by omega)
          · simpa using hsx
          · rw [HD.out]; exact Blk.put7 (Blk.drewN BCy _)
          · exact (by repeat (first | with_reducible exact BLy | with_reducible refine Blk.drew ?_ | with_reducible refine Blk.drewN ?_ _ | with_reducible refine Blk.alloc ?_ _ | with_reducible refine Blk.other ?_ (by simp <;> omega) _))
          · exact (by repeat (first | with_reducible exact BWy | with_reducible refine Blk.drew ?_ | with_reducible refine Blk.drewN ?_ _ | with_reducible refine Blk.alloc ?_ _ | with_reducible refine Blk.other ?_ (by simp <;> omega) _))
          · exact (by repeat (first | with_reducible exact BNy | with_reducible refine Blk.drew ?_ | with_reducible refine Blk.drewN ?_ _ | with_reducible refine Blk.alloc ?_ _ | with_reducible refine Blk.other ?_ (by simp <;> omega) _))
    · obtain rfl : k = 7 := by omega
      have q1 : (a + 1 + 1) % 4294967296 = ((a + 1) % 4294967296 + 1) % 4294967296 := by omega
      have q2 : (b + 1 + 1) % 4294967296 = ((b + 1) % 4294967296 + 1) % 4294967296 := by omega
      have BCx : Blk wr (w1.heap.size + 1 + 1 + 1) 26 [.int .i64 6, .bool true, .bool true, .int .u32 ((a + 1 + 1) % 4294967296), .int .u32 ((b + 1 + 1) % 4294967296), .bool true, .bool true] := by rw [q1, q2]; exact BC
      clear q1 q2
      obtain ⟨b0, b1, b2, b3, b4, b5, b6⟩ := cells7 BCx
      have n0 := BN.cell (i := 0) rfl
      have n1 := BN.cell (i := 1) rfl
      go_wp2_with fail
      go_quiet (fail)
      go_wp2_with fail
      go_ret
      exact ⟨rfl, Below.drewN hbr _⟩
end Go.Proofs.Ytliibpajgdncpaa
