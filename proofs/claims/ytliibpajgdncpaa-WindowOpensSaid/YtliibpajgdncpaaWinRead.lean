/- The walk of window.read. -/
import Derived.Test.YtliibpajgdncpaaWinWalks
import Derived.Test.YtliibpajgdncpaaStateSeq
import Derived.Test.YtliibpajgdncpaaTcpSize
import Derived.Deep.RegionHeld3
import Derived.Deep.DeepCutAuto
namespace Go.Proofs.Ytliibpajgdncpaa
open Go.RowKit
set_option linter.unusedVariables false
theorem BlkV.nine {w : World} {g : Nat} {T : TypeId} {a b c d e f h i j : Value} {xs : List Value} (H : BlkV w g T (a :: b :: c :: d :: e :: f :: h :: i :: j :: xs)) :
    w.cell? ⟨g, 0, none⟩ = some a ∧ w.cell? ⟨g, 1, none⟩ = some b ∧ w.cell? ⟨g, 2, none⟩ = some c ∧ w.cell? ⟨g, 3, none⟩ = some d ∧ w.cell? ⟨g, 4, none⟩ = some e ∧ w.cell? ⟨g, 5, none⟩ = some f ∧
    w.cell? ⟨g, 6, none⟩ = some h ∧ w.cell? ⟨g, 7, none⟩ = some i ∧ w.cell? ⟨g, 8, none⟩ = some j :=
  ⟨H.cell rfl, H.cell rfl, H.cell rfl, H.cell rfl, H.cell rfl, H.cell rfl, H.cell rfl, H.cell rfl, H.cell rfl⟩
theorem BlkV.later_new {w w9 : World} {T : TypeId} {l : List Value} (hb : Below (w.alloc (.cells l.toArray T)).heap.size (w.alloc (.cells l.toArray T)) w9) : BlkV w9 w.heap.size T l := (BlkV.new w T l).below hb
theorem BlkV.free11 {w : World} {g : Nat} {T : TypeId} {xs : List Value} (h : BlkV w g T xs) :
    w.frozen? ⟨g, 0, none⟩ = false ∧ w.frozen? ⟨g, 1, none⟩ = false ∧ w.frozen? ⟨g, 2, none⟩ = false ∧ w.frozen? ⟨g, 3, none⟩ = false ∧ w.frozen? ⟨g, 4, none⟩ = false ∧ w.frozen? ⟨g, 5, none⟩ = false ∧ w.frozen? ⟨g, 6, none⟩ = false ∧
    w.frozen? ⟨g, 7, none⟩ = false ∧ w.frozen? ⟨g, 8, none⟩ = false ∧ w.frozen? ⟨g, 9, none⟩ = false ∧ w.frozen? ⟨g, 10, none⟩ = false :=
  ⟨h.unfrozen _, h.unfrozen _, h.unfrozen _, h.unfrozen _, h.unfrozen _, h.unfrozen _, h.unfrozen _, h.unfrozen _, h.unfrozen _, h.unfrozen _, h.unfrozen _⟩
theorem BlkV.eleven {w : World} {g : Nat} {T : TypeId} {a b c d e f h i j k l : Value} (H : BlkV w g T [a, b, c, d, e, f, h, i, j, k, l]) :
    w.cell? ⟨g, 0, none⟩ = some a ∧ w.cell? ⟨g, 1, none⟩ = some b ∧ w.cell? ⟨g, 2, none⟩ = some c ∧ w.cell? ⟨g, 3, none⟩ = some d ∧ w.cell? ⟨g, 4, none⟩ = some e ∧ w.cell? ⟨g, 5, none⟩ = some f ∧
    w.cell? ⟨g, 6, none⟩ = some h ∧ w.cell? ⟨g, 7, none⟩ = some i ∧ w.cell? ⟨g, 8, none⟩ = some j ∧ w.cell? ⟨g, 9, none⟩ = some k ∧ w.cell? ⟨g, 10, none⟩ = some l :=
  ⟨H.cell rfl, H.cell rfl, H.cell rfl, H.cell rfl, H.cell rfl, H.cell rfl, H.cell rfl, H.cell rfl, H.cell rfl, H.cell rfl, H.cell rfl⟩
theorem BlkV.later_seg {w w9 : World} {T : TypeId} (hb : Below (w.alloc (.cells #[.int .i64 0, .int .i64 0, .int .u32 0, .int .u32 0, .int .i64 0, .int .i64 0, .int .i64 0, .slice none 0 0, .slice none 0 0, .int .u32 0, .int .i64 0] T)).heap.size (w.alloc (.cells #[.int .i64 0, .int .i64 0, .int .u32 0, .int .u32 0, .int .i64 0, .int .i64 0, .int .i64 0, .slice none 0 0, .slice none 0 0, .int .u32 0, .int .i64 0] T)) w9) :
    BlkV w9 w.heap.size T [.int .i64 0, .int .i64 0, .int .u32 0, .int .u32 0, .int .i64 0, .int .i64 0, .int .i64 0, .slice none 0 0, .slice none 0 0, .int .u32 0, .int .i64 0] := BlkV.later_new hb
theorem BlkV.later_segd {w w9 : World} {T : TypeId} (hb : Below (w.alloc (.cells #[.int .i64 0, .int .i64 0, .int .u32 0, .int .u32 0, .int .i64 0, .int .i64 0, .int .i64 0, .slice none 0 0, .slice none 0 0, .int .u32 0, .int .i64 0] T)).drew.heap.size (w.alloc (.cells #[.int .i64 0, .int .i64 0, .int .u32 0, .int .u32 0, .int .i64 0, .int .i64 0, .int .i64 0, .slice none 0 0, .slice none 0 0, .int .u32 0, .int .i64 0] T)).drew w9) :
    BlkV w9 w.heap.size T [.int .i64 0, .int .i64 0, .int .u32 0, .int .u32 0, .int .i64 0, .int .i64 0, .int .i64 0, .slice none 0 0, .slice none 0 0, .int .u32 0, .int .i64 0] := BlkV.below (BlkV.new w T _) (w := (w.alloc _)) ⟨hb.os, hb.tape, hb.output, hb.size, hb.block⟩
theorem BlkV.put11 {w : World} {g : Nat} {T : TypeId} {a b c d e f h i j k l : Value} (H : BlkV w g T [a, b, c, d, e, f, h, i, j, k, l]) {x0 x1 x2 x3 x4 x5 x6 x7 x8 x9 x10 : Value} :
    BlkV (((((((((((w.setCell ⟨g, 0, none⟩ x0).setCell ⟨g, 1, none⟩ x1).setCell ⟨g, 2, none⟩ x2).setCell ⟨g, 3, none⟩ x3).setCell ⟨g, 4, none⟩ x4).setCell ⟨g, 5, none⟩ x5).setCell ⟨g, 6, none⟩ x6).setCell ⟨g, 7, none⟩ x7).setCell ⟨g, 8, none⟩ x8).setCell ⟨g, 9, none⟩ x9).setCell ⟨g, 10, none⟩ x10) g T [x0, x1, x2, x3, x4, x5, x6, x7, x8, x9, x10] :=
  (((((((((((H.put 0 x0).put 1 x1).put 2 x2).put 3 x3).put 4 x4).put 5 x5).put 6 x6).put 7 x7).put 8 x8).put 9 x9).put 10 x10).fit rfl
theorem bel_mark {B : Nat} {w w' : World} (h : Below B w w') : Below B w w' := h
theorem seg_ret {sp dp sq ak fl wi ur en a b : Int} {Ao : Option Addr} {no co : Nat} {Ab : Option Addr} {nb cb : Nat} (h : a = b) : Ending.returned (.agg #[.int .i64 sp, .int .i64 dp, .int .u32 sq, .int .u32 ak, .int .i64 fl, .int .i64 wi, .int .i64 ur, .slice Ao no co, .slice Ab nb cb, .int .u32 en, .int .i64 a]) = .returned (.agg (List.toArray ([.int .i64 sp, .int .i64 dp, .int .u32 sq, .int .u32 ak, .int .i64 fl, .int .i64 wi, .int .i64 ur, .slice Ao no co, .slice Ab nb cb] ++ [.int .u32 en, .int .i64 b]))) := by rw [h]; rfl
theorem Win.win_fit {xs wi : Int} (h0 : 0 ≤ wi) (h1 : wi ≤ 65535) (hs : xs ≤ 14) : (xs < 0 → Win.win xs wi false = max wi 1) ∧ (0 ≤ xs → Win.win xs wi false = max (wrap64 (wi * 2 ^ min xs.toNat 64)) 1) := by
  obtain ⟨g0, g1⟩ := Win.win_bd (syn := false) h0 h1 hs
  unfold Win.win at g0 g1 ⊢
  rw [if_neg (by simp)] at g0 g1 ⊢
  constructor
  · intro h
    rw [show (max xs 0).toNat = 0 by omega, Int.pow_zero, Int.mul_one]
  · intro h
    rw [show min xs.toNat 64 = (max xs 0).toNat by omega]
    have hz : 0 ≤ wi * 2 ^ (max xs 0).toNat := Int.mul_nonneg h0 (Int.le_of_lt (Int.pow_pos (by decide)))
    generalize wi * 2 ^ (max xs 0).toNat = z at g0 g1 hz ⊢
    unfold wrap64
    omega
set_option maxHeartbeats 2000000 in
theorem win_read (xe xm xu xw xs : Int) (xh : Bool) (sp dp sq ak fl wi ur : Int) (Ao : Option Addr) (no co : Nat) (Ab : Option Addr) (nb cb : Nat) (w : World) (hn : nb ≤ 4294967295) (h0 : 0 ≤ wi) (h1 : wi ≤ 65535) (hs : xs ≤ 14) :
    Calls Try.prog 34 #[.agg #[.int .u32 xe, .int .u32 xm, .int .u32 xu, .int .i64 xw, .int .i64 xs, .bool xh], .agg #[.int .i64 sp, .int .i64 dp, .int .u32 sq, .int .u32 ak, .int .i64 fl, .int .i64 wi, .int .i64 ur, .slice Ao no co, .slice Ab nb cb]] w fun e w' => e = .returned (.agg (List.toArray ([.int .i64 sp, .int .i64 dp, .int .u32 sq, .int .u32 ak, .int .i64 fl, .int .i64 wi, .int .i64 ur, .slice Ao no co, .slice Ab nb cb] ++ [.int .u32 (Seq.step sq (State.size nb fl)), .int .i64 (Win.win xs wi (State.has fl 2))]))) ∧ Below w.heap.size w w' := by
  obtain ⟨W, hW⟩ : ∃ W, W = ((w.alloc (.cells #[.int .u32 xe, .int .u32 xm, .int .u32 xu, .int .i64 xw, .int .i64 xs, .bool xh] 46)).alloc (.cells #[.int .i64 sp, .int .i64 dp, .int .u32 sq, .int .u32 ak, .int .i64 fl, .int .i64 wi, .int .i64 ur, .slice Ao no co, .slice Ab nb cb] 30)).alloc (.cells #[.int .i64 0, .int .i64 0, .int .u32 0, .int .u32 0, .int .i64 0, .int .i64 0, .int .i64 0, .slice none 0 0, .slice none 0 0, .int .u32 0, .int .i64 0] 70) := ⟨_, rfl⟩
  have hbW : Below w.heap.size w W := by rw [hW]; exact (((Below.refl _ _).alloc (Nat.le_refl _) _).alloc (by simp) _).alloc (by simp; omega) _
  have B0 : BlkV W w.heap.size 46 [.int .u32 xe, .int .u32 xm, .int .u32 xu, .int .i64 xw, .int .i64 xs, .bool xh] := by rw [hW]; exact ((BlkV.new _ _ _).alloc _).alloc _
  have B1 : BlkV W (w.heap.size + 1) 30 [.int .i64 sp, .int .i64 dp, .int .u32 sq, .int .u32 ak, .int .i64 fl, .int .i64 wi, .int .i64 ur, .slice Ao no co, .slice Ab nb cb] := by rw [hW]; exact (BlkV.new_at _ _ _ (by simp)).alloc _
  have B2 : BlkV W (w.heap.size + 1 + 1) 70 [.int .i64 0, .int .i64 0, .int .u32 0, .int .u32 0, .int .i64 0, .int .i64 0, .int .i64 0, .slice none 0 0, .slice none 0 0, .int .u32 0, .int .i64 0] := by rw [hW]; exact BlkV.new_at _ _ _ (by simp)
  have hWs : w.heap.size + 3 ≤ W.heap.size := by rw [hW]; simp
  have HC1 : Hid (∀ w' : World, Calls Try.prog 23 #[.agg #[.int .i64 sp, .int .i64 dp, .int .u32 sq, .int .u32 ak, .int .i64 fl, .int .i64 wi, .int .i64 ur, .slice Ao no co, .slice Ab nb cb]] w' fun e w2 => e = .returned (.int .i64 (State.size nb fl)) ∧ Below w'.heap.size w' w2) := Lib.hid fun w' => size_spec sp dp sq ak fl wi ur Ao no co Ab nb cb w' hn
  have HC2 : Hid (∀ w' : World, Calls Try.prog 22 #[.int .u32 sq, .int .i64 (State.size nb fl)] w' fun e w2 => e = .returned (.int .u32 (Seq.step sq (State.size nb fl))) ∧ w' = w2) := Lib.hid fun w' => seq_step sq (State.size nb fl) w'
  generalize Seq.step sq (State.size nb fl) = en at HC2
  have HC3 := fun w' => win_has sp dp sq ak fl wi ur en wi Ao no co Ab nb cb 2 w'
  have KF : Hid (∀ w' : World, Below W.heap.size W w' → Below W.heap.size W w' ∧ w'.cell? ⟨w.heap.size + 1, 0, none⟩ = some (.int .i64 sp) ∧ w'.cell? ⟨w.heap.size + 1, 1, none⟩ = some (.int .i64 dp) ∧ w'.cell? ⟨w.heap.size + 1, 2, none⟩ = some (.int .u32 sq) ∧ w'.cell? ⟨w.heap.size + 1, 3, none⟩ = some (.int .u32 ak) ∧ w'.cell? ⟨w.heap.size + 1, 4, none⟩ = some (.int .i64 fl) ∧ w'.cell? ⟨w.heap.size + 1, 5, none⟩ = some (.int .i64 wi) ∧ w'.cell? ⟨w.heap.size + 1, 6, none⟩ = some (.int .i64 ur) ∧ w'.cell? ⟨w.heap.size + 1, 7, none⟩ = some (.slice Ao no co) ∧ w'.cell? ⟨w.heap.size + 1, 8, none⟩ = some (.slice Ab nb cb)) := Lib.hid fun w' hb => ⟨hb, (B1.below hb).nine⟩
  obtain ⟨a0, a1, a2, a3, a4, a5, a6, a7, a8⟩ := B1.nine
  have BB0 := Lib.hid B0
  have BB1 := Lib.hid B1
  have BB2 := Lib.hid B2
  have HBW := Lib.hid hbW
  have HN := Lib.hid (And.intro h0 (And.intro h1 hs))
  clear B0 B1 B2 hbW hn h0 h1 hs
  go_enter Try.func34, Try.ntmps34
  go_wp2_with fail
  rw [← hW]
  clear hW
  go_cut [5] (fun s5 wx => ∃ g : Nat, s5 = .pointer (some ⟨g, 0, none⟩) ∧ W.heap.size ≤ g ∧ Below W.heap.size W wx ∧ BlkV wx g 70 [.int .i64 sp, .int .i64 dp, .int .u32 sq, .int .u32 ak, .int .i64 fl, .int .i64 wi, .int .i64 ur, .slice Ao no co, .slice Ab nb cb, .int .u32 en, .int .i64 wi])
  case first =>
    go_region_held3 (fun w' => Below W.heap.size W w' ∧ w'.cell? ⟨w.heap.size + 1, 0, none⟩ = some (.int .i64 sp) ∧ w'.cell? ⟨w.heap.size + 1, 1, none⟩ = some (.int .i64 dp) ∧ w'.cell? ⟨w.heap.size + 1, 2, none⟩ = some (.int .u32 sq) ∧ w'.cell? ⟨w.heap.size + 1, 3, none⟩ = some (.int .u32 ak) ∧ w'.cell? ⟨w.heap.size + 1, 4, none⟩ = some (.int .i64 fl) ∧ w'.cell? ⟨w.heap.size + 1, 5, none⟩ = some (.int .i64 wi) ∧ w'.cell? ⟨w.heap.size + 1, 6, none⟩ = some (.int .i64 ur) ∧ w'.cell? ⟨w.heap.size + 1, 7, none⟩ = some (.slice Ao no co) ∧ w'.cell? ⟨w.heap.size + 1, 8, none⟩ = some (.slice Ab nb cb)) (exact KF.out _ (by repeat (first | with_reducible exact hbn | with_reducible exact Below.refl W.heap.size W | with_reducible refine bel_grow ?_ _ | with_reducible refine Below.setCell ?_ (by simp) _ | with_reducible refine Below.drewN ?_ _ | with_reducible refine Below.drew ?_)))
      (with_reducible first | (refine (HC1.out _).mono ?_; rintro e w9 ⟨rfl, hb9⟩; have hbn : Below W.heap.size W w9 := bel_then (by repeat (first | with_reducible exact hbn | with_reducible exact Below.refl W.heap.size W | with_reducible refine bel_grow ?_ _ | with_reducible refine Below.setCell ?_ (by simp) _ | with_reducible refine Below.drewN ?_ _ | with_reducible refine Below.drew ?_)) hb9; try (have zb := (by first | exact BlkV.later_seg hb9 | exact BlkV.later_segd hb9); obtain ⟨y0, y1, y2, y3, y4, y5, y6, y7, y8, y9, y10⟩ := zb.free11; obtain ⟨v0, v1, v2, v3, v4, v5, v6, v7, v8, v9, v10⟩ := zb.eleven)) | (refine (HC2.out _).mono ?_; rintro e w9 ⟨rfl, rfl⟩))
    all_goals
      go_wp2_with fail
      go_meet
      exact ⟨_, rfl, by first | exact Nat.le_refl _ | exact hbn.size, (by repeat (first | with_reducible exact hbn | with_reducible exact Below.refl W.heap.size W | with_reducible refine bel_grow ?_ _ | with_reducible refine Below.setCell ?_ (by simp) _ | with_reducible refine Below.drewN ?_ _ | with_reducible refine Below.drew ?_)), by first | with_reducible exact BlkV.put11 zb | exact BlkV.new _ _ [.int .i64 sp, .int .i64 dp, .int .u32 sq, .int .u32 ak, .int .i64 fl, .int .i64 wi, .int .i64 ur, .slice Ao no co, .slice Ab nb cb, .int .u32 en, .int .i64 wi]⟩
  case rest =>
    obtain ⟨g, rfl, hgW, hbx, BG⟩ := hcut
    clear HC1 HC2 a0 a1 a2 a3 a4 a5 a6 a7 a8
    have hsx := hbx.size
    have hng : ¬ g = w.heap.size := by omega
    obtain ⟨v0, v1, v2, v3, v4, v5, v6, v7, v8, v9, v10⟩ := BG.eleven
    have hlt := BG.lt
    go_wp2_with fail
    refine (HC3 _).mono ?_
    rintro e w3 ⟨rfl, hb3⟩
    clear v0 v1 v2 v3 v4 v5 v6 v7 v8 v9 v10 hlt HC3
    have BG3 := BG.below hb3
    have B03 := (BB0.out.below hbx).below hb3
    have B13 := (BB1.out.below hbx).below hb3
    have B23 := (BB2.out.below hbx).below hb3
    have hbF := bel_then HBW.out (bel_then hbx hb3)
    have hlt := BG3.lt
    have hlt2 := B23.lt
    clear hbx hb3 BG BB0 BB1 BB2 HBW KF hsx
    obtain ⟨v0, v1, v2, v3, v4, v5, v6, v7, v8, v9, v10⟩ := BG3.eleven
    obtain ⟨y0, y1, y2, y3, y4, y5, y6, y7, y8, y9, y10⟩ := BG3.free11
    obtain ⟨x0, x1, x2, x3, x4, x5, x6, x7, x8, x9, x10⟩ := B23.eleven
    obtain ⟨z0, z1, z2, z3, z4, z5, z6, z7, z8, z9, z10⟩ := B23.free11
    have s4 := B03.cell (i := 4) rfl
    have t5 := B13.cell (i := 5) rfl
    have hng2 : ¬ g = w.heap.size + 1 + 1 := by omega
    clear BG3 B03 B13 B23
    cases hsyn : State.has fl 2
    · go_wp2_with fail
      all_goals
        first | (refine bodyPost_ret (v := .agg #[.int .i64 sp, .int .i64 dp, .int .u32 sq, .int .u32 ak, .int .i64 fl, .int .i64 wi, .int .i64 ur, .slice Ao no co, .slice Ab nb cb, .int .u32 en, .int .i64 (1)]) ?_ rfl ⟨seg_ret ?_, ?_⟩; · (simp [results, Try.results34, go_sem, x0, x1, x2, x3, x4, x5, x6, x7, x8, x9, x10]; done)) | (refine bodyPost_ret (v := .agg #[.int .i64 sp, .int .i64 dp, .int .u32 sq, .int .u32 ak, .int .i64 fl, .int .i64 wi, .int .i64 ur, .slice Ao no co, .slice Ab nb cb, .int .u32 en, .int .i64 (wrap64 wi)]) ?_ rfl ⟨seg_ret ?_, ?_⟩; · (simp [results, Try.results34, go_sem, x0, x1, x2, x3, x4, x5, x6, x7, x8, x9, x10]; done)) | (refine bodyPost_ret (v := .agg #[.int .i64 sp, .int .i64 dp, .int .u32 sq, .int .u32 ak, .int .i64 fl, .int .i64 wi, .int .i64 ur, .slice Ao no co, .slice Ab nb cb, .int .u32 en, .int .i64 (wrap64 (wi * 2 ^ min xs.toNat 64))]) ?_ rfl ⟨seg_ret ?_, ?_⟩; · (simp [results, Try.results34, go_sem, x0, x1, x2, x3, x4, x5, x6, x7, x8, x9, x10]; done)) | (refine bodyPost_ret (v := .agg #[.int .i64 sp, .int .i64 dp, .int .u32 sq, .int .u32 ak, .int .i64 fl, .int .i64 wi, .int .i64 ur, .slice Ao no co, .slice Ab nb cb, .int .u32 en, .int .i64 (wi)]) ?_ rfl ⟨seg_ret ?_, ?_⟩; · (simp [results, Try.results34, go_sem, x0, x1, x2, x3, x4, x5, x6, x7, x8, x9, x10]; done))
      all_goals first | (refine bel_mark ?_; repeat (first | with_reducible exact hbF | with_reducible refine Below.setCell ?_ (by simp; try omega) _)) | (obtain ⟨h0, h1, hs⟩ := HN.out; obtain ⟨k1, k2⟩ := Win.win_fit h0 h1 hs; first | (have k3 := k1 (by assumption); unfold wrap64 at *; omega) | (have k3 := k2 (by assumption); omega))
    · obtain ⟨h0, h1, hs⟩ := HN.out
      have HSY := Lib.hid hsyn
      clear hsyn HN
      go_wp2_with fail
      all_goals
        first | (refine bodyPost_ret (v := .agg #[.int .i64 sp, .int .i64 dp, .int .u32 sq, .int .u32 ak, .int .i64 fl, .int .i64 wi, .int .i64 ur, .slice Ao no co, .slice Ab nb cb, .int .u32 en, .int .i64 (1)]) ?_ rfl ⟨seg_ret ?_, ?_⟩; · (simp [results, Try.results34, go_sem, x0, x1, x2, x3, x4, x5, x6, x7, x8, x9, x10]; done)) | (refine bodyPost_ret (v := .agg #[.int .i64 sp, .int .i64 dp, .int .u32 sq, .int .u32 ak, .int .i64 fl, .int .i64 wi, .int .i64 ur, .slice Ao no co, .slice Ab nb cb, .int .u32 en, .int .i64 (wrap64 wi)]) ?_ rfl ⟨seg_ret ?_, ?_⟩; · (simp [results, Try.results34, go_sem, x0, x1, x2, x3, x4, x5, x6, x7, x8, x9, x10]; done)) | (refine bodyPost_ret (v := .agg #[.int .i64 sp, .int .i64 dp, .int .u32 sq, .int .u32 ak, .int .i64 fl, .int .i64 wi, .int .i64 ur, .slice Ao no co, .slice Ab nb cb, .int .u32 en, .int .i64 (wrap64 (wi * 2 ^ min xs.toNat 64))]) ?_ rfl ⟨seg_ret ?_, ?_⟩; · (simp [results, Try.results34, go_sem, x0, x1, x2, x3, x4, x5, x6, x7, x8, x9, x10]; done)) | (refine bodyPost_ret (v := .agg #[.int .i64 sp, .int .i64 dp, .int .u32 sq, .int .u32 ak, .int .i64 fl, .int .i64 wi, .int .i64 ur, .slice Ao no co, .slice Ab nb cb, .int .u32 en, .int .i64 (wi)]) ?_ rfl ⟨seg_ret ?_, ?_⟩; · (simp [results, Try.results34, go_sem, x0, x1, x2, x3, x4, x5, x6, x7, x8, x9, x10]; done))
      all_goals first | (refine bel_mark ?_; repeat (first | with_reducible exact hbF | with_reducible refine Below.setCell ?_ (by simp; try omega) _)) | (unfold Win.win; rw [if_pos HSY.out]; omega)
end Go.Proofs.Ytliibpajgdncpaa
