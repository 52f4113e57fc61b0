/- The walk of state.Step for a right connection (printed by tools/gen_step.py). -/
import Derived.Test.YtliibpajgdncpaaStateTalk
import Derived.Outline
namespace Go.Proofs.Ytliibpajgdncpaa
open Go.RowKit
set_option linter.unusedVariables false

set_option maxHeartbeats 16000000 in
theorem step_go0a (st a0 a1 : Int) (f0 f1 k0 k1 : Bool) (sp dp sq ak fl wi ur : Int) (Ao : Option Addr) (no co : Nat) (Ab : Option Addr) (nb cb : Nat) (sy ac fi rs : Bool) (hsy : Hid (State.has fl 2 = sy)) (hac : Hid (State.has fl 16 = ac)) (hfi : Hid (State.has fl 1 = fi)) (hrs : Hid (State.has fl 4 = rs)) (w : World) (hn : nb ≤ 4294967295) (hR : State.rightB (⟨st, f0, f1, a0, a1, k0, k1⟩ : State.C) = true) (hst : Hid (st = 0 ∨ st = 1 ∨ st = 2 ∨ st = 3)) :
    Calls Try.prog 12 #[.agg #[.int .i64 (st), .bool f0, .bool f1, .int .u32 a0, .int .u32 a1, .bool k0, .bool k1], .int .i64 0, .agg #[.int .i64 sp, .int .i64 dp, .int .u32 sq, .int .u32 ak, .int .i64 fl, .int .i64 wi, .int .i64 ur, .slice Ao no co, .slice Ab nb cb]] w (TalkR (State.go (⟨st, f0, f1, a0, a1, k0, k1⟩ : State.C) (⟨0, sy, ac, fi, rs, Seq.step sq (State.size nb fl), ak⟩ : State.W)).1 (State.go (⟨st, f0, f1, a0, a1, k0, k1⟩ : State.C) (⟨0, sy, ac, fi, rs, Seq.step sq (State.size nb fl), ak⟩ : State.W)).2 w) := by
  obtain ⟨W, hW⟩ : ∃ W, W = ((w.alloc (.cells #[.int .i64 (st), .bool f0, .bool f1, .int .u32 a0, .int .u32 a1, .bool k0, .bool k1] 26)).alloc (.cells #[.int .i64 sp, .int .i64 dp, .int .u32 sq, .int .u32 ak, .int .i64 fl, .int .i64 wi, .int .i64 ur, .slice Ao no co, .slice Ab nb cb] 30)).alloc (.cells #[.int .i64 0, .bool false, .bool false, .int .u32 0, .int .u32 0, .bool false, .bool false] 26) := ⟨_, rfl⟩
  have hbW : Below w.heap.size w W := (by rw [hW]; exact (((Below.refl _ _).alloc (Nat.le_refl _) _).alloc (by simp) _).alloc (by simp; omega) _)
  have B0 : Blk W w.heap.size 26 [.int .i64 (st), .bool f0, .bool f1, .int .u32 a0, .int .u32 a1, .bool k0, .bool k1] := (by rw [hW]; exact ((Blk.new _ _ [.int .i64 (st), .bool f0, .bool f1, .int .u32 a0, .int .u32 a1, .bool k0, .bool k1] _ rfl).alloc _).alloc _)
  have B1 : Blk W (w.heap.size + 1) 30 [.int .i64 sp, .int .i64 dp, .int .u32 sq, .int .u32 ak, .int .i64 fl, .int .i64 wi, .int .i64 ur, .slice Ao no co, .slice Ab nb cb] := (by rw [hW]; exact (Blk.new _ _ [.int .i64 sp, .int .i64 dp, .int .u32 sq, .int .u32 ak, .int .i64 fl, .int .i64 wi, .int .i64 ur, .slice Ao no co, .slice Ab nb cb] _ (by simp)).alloc _)
  have B2 : Blk W (w.heap.size + 1 + 1) 26 [.int .i64 0, .bool false, .bool false, .int .u32 0, .int .u32 0, .bool false, .bool false] := (by rw [hW]; exact (Blk.new _ _ [.int .i64 0, .bool false, .bool false, .int .u32 0, .int .u32 0, .bool false, .bool false] _ (by simp)))
  have hWs : w.heap.size + 3 ≤ W.heap.size := (by rw [hW]; simp)
  go_enter Try.func12, Try.ntmps12
  go_wp2_with fail
  rw [← hW]
  clear hW
  refine (sright_spec (⟨st, f0, f1, a0, a1, k0, k1⟩ : State.C) _).mono ?_
  rintro e w1 ⟨rfl, hb1⟩
  have B0' := B0.later hb1
  have B1' := B1.later hb1
  have B2' := B2.later hb1
  have hbW1 := bel_then hbW hb1
  have hs1 := hb1.size
  clear B0 B1 B2 hbW
  have hg0 : w.heap.size < w1.heap.size := by omega
  have hg1 : w.heap.size + 1 < w1.heap.size := by omega
  have hg2 : w.heap.size + 1 + 1 < w1.heap.size := by omega
  obtain ⟨m0, m1, m2, m3, m4, m5, m6, m7, m8⟩ := cells9 B1'
  go_wp2_with fail
  refine (said_spec 0 sp dp sq ak fl wi ur Ao no co Ab nb cb _).mono ?_
  rintro e w2 ⟨rfl, hb2⟩
  have B0 := B0'.later hb2
  have B2 := B2'.later hb2
  have hbW := bel_then hbW1 hb2
  have hs2 := hb2.size
  clear B0' B1' B2' hbW1 hb1 hb2 m0 m1 m2 m3 m4 m5 m6 m7 m8 hg0 hg1 hg2 hR
  have hg0 : w.heap.size < w2.heap.size := by omega
  have hg2 : w.heap.size + 1 + 1 < w2.heap.size := by omega
  have hl0 : w.heap.size ≤ w2.heap.size := by omega
  have hl2 : w.heap.size + 1 + 1 ≤ w2.heap.size := by omega
  have hn0 : ¬ w2.heap.size = w.heap.size := by omega
  have hn2 : ¬ w2.heap.size = w.heap.size + 1 + 1 := by omega
  clear hWs hs1 hs2
  obtain ⟨b0, b1, b2, b3, b4, b5, b6⟩ := cells7 B0
  obtain ⟨z0, z1, z2, z3, z4, z5, z6⟩ := frozen7 B0
  obtain ⟨y0, y1, y2, y3, y4, y5, y6⟩ := cells7 B2
  obtain ⟨x0, x1, x2, x3, x4, x5, x6⟩ := frozen7 B2
  rw [hsy.out, hac.out, hfi.out, hrs.out]
  clear hsy hac hfi hrs
  have hst' := hst.out
  clear hst
  rcases hst' with rfl | rfl | rfl | rfl
  · cases rs
    · obtain ⟨b, hb⟩ : ∃ b, State.begins (⟨0, sy, ac, fi, false, Seq.step sq (State.size nb fl), ak⟩ : State.W) = b := ⟨_, rfl⟩
      have HBG := fun w => begins_b 0 sp dp sq ak fl wi ur Ao no co Ab nb cb sy ac fi false (Seq.step sq (State.size nb fl)) ak b w hb
      cases b
      ·
        have HF : Hid (State.go (⟨0, f0, f1, a0, a1, k0, k1⟩ : State.C) (⟨0, sy, ac, fi, false, Seq.step sq (State.size nb fl), ak⟩ : State.W) = ((⟨0, f0, f1, a0, a1, k0, k1⟩ : State.C), false)) := by show _ = _; unfold State.go; rw [hb]; rfl
        clear hb
        go_wp2_with fail
        refine (HBG _).mono ?_
        rintro e w3 ⟨rfl, hw3⟩
        have hb3 := Below.new_of2 hw3
        have B0' := Blk.later (B0.alloc _) hb3
        have B2' := Blk.later (B2.alloc _) hb3
        have B8 := Blk.later (Blk.new w2 60 [.int .i64 sp, .int .i64 dp, .int .u32 sq, .int .u32 ak, .int .i64 fl, .int .i64 wi, .int .i64 ur, .slice Ao no co, .slice Ab nb cb, .int .i64 0, .bool sy, .bool ac, .bool fi, .bool false] _ rfl) hb3
        have hbW' : Below w.heap.size w w3 := Below.trans (hbW.alloc (by omega) _) (hb3.mono (by simp <;> omega))
        have hs3 := hb3.size
        rw [World.heap_size_alloc] at hs3
        clear hw3 hb3 B0 B2 hbW b0 b1 b2 b3 b4 b5 b6 z0 z1 z2 z3 z4 z5 z6 y0 y1 y2 y3 y4 y5 y6 x0 x1 x2 x3 x4 x5 x6
        have hg0' : w.heap.size < w3.heap.size := by omega
        have hg2' : w.heap.size + 1 + 1 < w3.heap.size := by omega
        have hg8' : w2.heap.size < w3.heap.size := by omega
        obtain ⟨b0, b1, b2, b3, b4, b5, b6⟩ := cells7 B0'
        obtain ⟨y0, y1, y2, y3, y4, y5, y6⟩ := cells7 B2'
        obtain ⟨z0, z1, z2, z3, z4, z5, z6⟩ := frozen7 B0'
        obtain ⟨x0, x1, x2, x3, x4, x5, x6⟩ := frozen7 B2'
        obtain ⟨v0, v1, v2, v3, v4, v5, v6, v7, v8, v9, v10, v11, v12, v13⟩ := cells14 B8
        go_wp2_with fail
        exact bodyPost_ret (v := .tuple #[.agg #[.int .i64 (0), .bool f0, .bool f1, .int .u32 a0, .int .u32 a1, .bool k0, .bool k1], .bool false]) (by simp [results, Try.results12, go_sem, *]) rfl (talkR_mk' (d' := (⟨0, f0, f1, a0, a1, k0, k1⟩ : State.C)) HF.out (by repeat (first | with_reducible exact hbW | with_reducible exact hbW' | with_reducible refine Below.drewN ?_ _ | with_reducible refine Below.drew ?_ | with_reducible refine Below.setCell ?_ (by simp <;> omega) _ | with_reducible refine Below.alloc ?_ (by simp <;> omega) _)))
      ·
        have HF : Hid (State.go (⟨0, f0, f1, a0, a1, k0, k1⟩ : State.C) (⟨0, sy, ac, fi, false, Seq.step sq (State.size nb fl), ak⟩ : State.W) = ((⟨1, false, false, 0, 0, false, false⟩ : State.C), true)) := by show _ = _; unfold State.go; rw [hb]; rfl
        clear hb
        go_wp2_with fail
        refine (HBG _).mono ?_
        rintro e w3 ⟨rfl, hw3⟩
        have hb3 := Below.new_of2 hw3
        have B0' := Blk.later (B0.alloc _) hb3
        have B2' := Blk.later (B2.alloc _) hb3
        have B8 := Blk.later (Blk.new w2 60 [.int .i64 sp, .int .i64 dp, .int .u32 sq, .int .u32 ak, .int .i64 fl, .int .i64 wi, .int .i64 ur, .slice Ao no co, .slice Ab nb cb, .int .i64 0, .bool sy, .bool ac, .bool fi, .bool false] _ rfl) hb3
        have hbW' : Below w.heap.size w w3 := Below.trans (hbW.alloc (by omega) _) (hb3.mono (by simp <;> omega))
        have hs3 := hb3.size
        rw [World.heap_size_alloc] at hs3
        clear hw3 hb3 B0 B2 hbW b0 b1 b2 b3 b4 b5 b6 z0 z1 z2 z3 z4 z5 z6 y0 y1 y2 y3 y4 y5 y6 x0 x1 x2 x3 x4 x5 x6
        have hg0' : w.heap.size < w3.heap.size := by omega
        have hg2' : w.heap.size + 1 + 1 < w3.heap.size := by omega
        have hg8' : w2.heap.size < w3.heap.size := by omega
        obtain ⟨b0, b1, b2, b3, b4, b5, b6⟩ := cells7 B0'
        obtain ⟨y0, y1, y2, y3, y4, y5, y6⟩ := cells7 B2'
        obtain ⟨z0, z1, z2, z3, z4, z5, z6⟩ := frozen7 B0'
        obtain ⟨x0, x1, x2, x3, x4, x5, x6⟩ := frozen7 B2'
        obtain ⟨v0, v1, v2, v3, v4, v5, v6, v7, v8, v9, v10, v11, v12, v13⟩ := cells14 B8
        go_wp2_with fail
        exact bodyPost_ret (v := .tuple #[.agg #[.int .i64 1, .bool false, .bool false, .int .u32 0, .int .u32 0, .bool false, .bool false], .bool true]) (by simp [results, Try.results12, go_sem, *]) rfl (talkR_mk' (d' := (⟨1, false, false, 0, 0, false, false⟩ : State.C)) HF.out (by repeat (first | with_reducible exact hbW | with_reducible exact hbW' | with_reducible refine Below.drewN ?_ _ | with_reducible refine Below.drew ?_ | with_reducible refine Below.setCell ?_ (by simp <;> omega) _ | with_reducible refine Below.alloc ?_ (by simp <;> omega) _)))
    · have HF : Hid (State.go (⟨0, f0, f1, a0, a1, k0, k1⟩ : State.C) (⟨0, sy, ac, fi, true, Seq.step sq (State.size nb fl), ak⟩ : State.W) = ((⟨0, f0, f1, a0, a1, k0, k1⟩ : State.C), false)) := rfl
      go_wp2_with fail
      exact bodyPost_ret (v := .tuple #[.agg #[.int .i64 (0), .bool f0, .bool f1, .int .u32 a0, .int .u32 a1, .bool k0, .bool k1], .bool false]) (by simp [results, Try.results12, go_sem, *]) rfl (talkR_mk' (d' := (⟨0, f0, f1, a0, a1, k0, k1⟩ : State.C)) HF.out (by repeat (first | with_reducible exact hbW | with_reducible exact hbW' | with_reducible refine Below.drewN ?_ _ | with_reducible refine Below.drew ?_ | with_reducible refine Below.setCell ?_ (by simp <;> omega) _ | with_reducible refine Below.alloc ?_ (by simp <;> omega) _)))
  · cases rs
    · obtain ⟨b, hb⟩ : ∃ b, State.begins (⟨0, sy, ac, fi, false, Seq.step sq (State.size nb fl), ak⟩ : State.W) = b := ⟨_, rfl⟩
      have HBG := fun w => begins_b 0 sp dp sq ak fl wi ur Ao no co Ab nb cb sy ac fi false (Seq.step sq (State.size nb fl)) ak b w hb
      cases b
      ·
        have HF : Hid (State.go (⟨1, f0, f1, a0, a1, k0, k1⟩ : State.C) (⟨0, sy, ac, fi, false, Seq.step sq (State.size nb fl), ak⟩ : State.W) = ((⟨1, f0, f1, a0, a1, k0, k1⟩ : State.C), false)) := by show _ = _; unfold State.go; rw [hb]; rfl
        clear hb
        go_wp2_with fail
        refine (HBG _).mono ?_
        rintro e w3 ⟨rfl, hw3⟩
        have hb3 := Below.new_of2 hw3
        have B0' := Blk.later (B0.alloc _) hb3
        have B2' := Blk.later (B2.alloc _) hb3
        have B8 := Blk.later (Blk.new w2 60 [.int .i64 sp, .int .i64 dp, .int .u32 sq, .int .u32 ak, .int .i64 fl, .int .i64 wi, .int .i64 ur, .slice Ao no co, .slice Ab nb cb, .int .i64 0, .bool sy, .bool ac, .bool fi, .bool false] _ rfl) hb3
        have hbW' : Below w.heap.size w w3 := Below.trans (hbW.alloc (by omega) _) (hb3.mono (by simp <;> omega))
        have hs3 := hb3.size
        rw [World.heap_size_alloc] at hs3
        clear hw3 hb3 B0 B2 hbW b0 b1 b2 b3 b4 b5 b6 z0 z1 z2 z3 z4 z5 z6 y0 y1 y2 y3 y4 y5 y6 x0 x1 x2 x3 x4 x5 x6
        have hg0' : w.heap.size < w3.heap.size := by omega
        have hg2' : w.heap.size + 1 + 1 < w3.heap.size := by omega
        have hg8' : w2.heap.size < w3.heap.size := by omega
        obtain ⟨b0, b1, b2, b3, b4, b5, b6⟩ := cells7 B0'
        obtain ⟨y0, y1, y2, y3, y4, y5, y6⟩ := cells7 B2'
        obtain ⟨z0, z1, z2, z3, z4, z5, z6⟩ := frozen7 B0'
        obtain ⟨x0, x1, x2, x3, x4, x5, x6⟩ := frozen7 B2'
        obtain ⟨v0, v1, v2, v3, v4, v5, v6, v7, v8, v9, v10, v11, v12, v13⟩ := cells14 B8
        go_wp2_with fail
        go_region_held3 (fun w' => (w'.cell? ⟨w2.heap.size, 0, none⟩ = some (.int .i64 sp) ∧ w'.cell? ⟨w2.heap.size, 1, none⟩ = some (.int .i64 dp) ∧ w'.cell? ⟨w2.heap.size, 2, none⟩ = some (.int .u32 sq) ∧ w'.cell? ⟨w2.heap.size, 3, none⟩ = some (.int .u32 ak) ∧ w'.cell? ⟨w2.heap.size, 4, none⟩ = some (.int .i64 fl) ∧ w'.cell? ⟨w2.heap.size, 5, none⟩ = some (.int .i64 wi) ∧ w'.cell? ⟨w2.heap.size, 6, none⟩ = some (.int .i64 ur) ∧ w'.cell? ⟨w2.heap.size, 7, none⟩ = some (.slice Ao no co) ∧ w'.cell? ⟨w2.heap.size, 8, none⟩ = some (.slice Ab nb cb) ∧ w'.cell? ⟨w2.heap.size, 9, none⟩ = some (.int .i64 0) ∧ w'.cell? ⟨w2.heap.size, 10, none⟩ = some (.bool sy) ∧ w'.cell? ⟨w2.heap.size, 11, none⟩ = some (.bool ac) ∧ w'.cell? ⟨w2.heap.size, 12, none⟩ = some (.bool fi) ∧ w'.cell? ⟨w2.heap.size, 13, none⟩ = some (.bool false)) ∧ w'.cell? ⟨w.heap.size, 0, none⟩ = some (.int .i64 1) ∧ w'.cell? ⟨w.heap.size, 1, none⟩ = some (.bool f0) ∧ w'.cell? ⟨w.heap.size, 2, none⟩ = some (.bool f1) ∧ w'.cell? ⟨w.heap.size, 3, none⟩ = some (.int .u32 a0) ∧ w'.cell? ⟨w.heap.size, 4, none⟩ = some (.int .u32 a1) ∧ w'.cell? ⟨w.heap.size, 5, none⟩ = some (.bool k0) ∧ w'.cell? ⟨w.heap.size, 6, none⟩ = some (.bool k1)) (exact And.intro (cells14 (T := 60) (by repeat (first | with_reducible exact B8 | with_reducible refine Blk.drew ?_ | with_reducible refine Blk.alloc ?_ _ | with_reducible refine Blk.other ?_ (by simp <;> omega) _))) (cells7 (T := 26) (by repeat (first | with_reducible exact B0' | with_reducible refine Blk.drew ?_ | with_reducible refine Blk.alloc ?_ _ | with_reducible refine Blk.other ?_ (by simp <;> omega) _)))) ((go_at_call 25; refine (HBG _).mono ?_; rintro e w3 ⟨rfl, rfl⟩))
        go_wp2_with fail
        exact bodyPost_ret (v := .tuple #[.agg #[.int .i64 (1), .bool f0, .bool f1, .int .u32 a0, .int .u32 a1, .bool k0, .bool k1], .bool false]) (by simp [results, Try.results12, go_sem, *]) rfl (talkR_mk' (d' := (⟨1, f0, f1, a0, a1, k0, k1⟩ : State.C)) HF.out (by repeat (first | with_reducible exact hbW | with_reducible exact hbW' | with_reducible refine Below.drewN ?_ _ | with_reducible refine Below.drew ?_ | with_reducible refine Below.setCell ?_ (by simp <;> omega) _ | with_reducible refine Below.alloc ?_ (by simp <;> omega) _)))
      ·
        have HF : Hid (State.go (⟨1, f0, f1, a0, a1, k0, k1⟩ : State.C) (⟨0, sy, ac, fi, false, Seq.step sq (State.size nb fl), ak⟩ : State.W) = ((⟨1, f0, f1, a0, a1, k0, k1⟩ : State.C), true)) := by show _ = _; unfold State.go; rw [hb]; rfl
        clear hb
        go_wp2_with fail
        refine (HBG _).mono ?_
        rintro e w3 ⟨rfl, hw3⟩
        have hb3 := Below.new_of2 hw3
        have B0' := Blk.later (B0.alloc _) hb3
        have B2' := Blk.later (B2.alloc _) hb3
        have B8 := Blk.later (Blk.new w2 60 [.int .i64 sp, .int .i64 dp, .int .u32 sq, .int .u32 ak, .int .i64 fl, .int .i64 wi, .int .i64 ur, .slice Ao no co, .slice Ab nb cb, .int .i64 0, .bool sy, .bool ac, .bool fi, .bool false] _ rfl) hb3
        have hbW' : Below w.heap.size w w3 := Below.trans (hbW.alloc (by omega) _) (hb3.mono (by simp <;> omega))
        have hs3 := hb3.size
        rw [World.heap_size_alloc] at hs3
        clear hw3 hb3 B0 B2 hbW b0 b1 b2 b3 b4 b5 b6 z0 z1 z2 z3 z4 z5 z6 y0 y1 y2 y3 y4 y5 y6 x0 x1 x2 x3 x4 x5 x6
        have hg0' : w.heap.size < w3.heap.size := by omega
        have hg2' : w.heap.size + 1 + 1 < w3.heap.size := by omega
        have hg8' : w2.heap.size < w3.heap.size := by omega
        obtain ⟨b0, b1, b2, b3, b4, b5, b6⟩ := cells7 B0'
        obtain ⟨y0, y1, y2, y3, y4, y5, y6⟩ := cells7 B2'
        obtain ⟨z0, z1, z2, z3, z4, z5, z6⟩ := frozen7 B0'
        obtain ⟨x0, x1, x2, x3, x4, x5, x6⟩ := frozen7 B2'
        obtain ⟨v0, v1, v2, v3, v4, v5, v6, v7, v8, v9, v10, v11, v12, v13⟩ := cells14 B8
        go_wp2_with fail
        go_region_held3 (fun w' => (w'.cell? ⟨w2.heap.size, 0, none⟩ = some (.int .i64 sp) ∧ w'.cell? ⟨w2.heap.size, 1, none⟩ = some (.int .i64 dp) ∧ w'.cell? ⟨w2.heap.size, 2, none⟩ = some (.int .u32 sq) ∧ w'.cell? ⟨w2.heap.size, 3, none⟩ = some (.int .u32 ak) ∧ w'.cell? ⟨w2.heap.size, 4, none⟩ = some (.int .i64 fl) ∧ w'.cell? ⟨w2.heap.size, 5, none⟩ = some (.int .i64 wi) ∧ w'.cell? ⟨w2.heap.size, 6, none⟩ = some (.int .i64 ur) ∧ w'.cell? ⟨w2.heap.size, 7, none⟩ = some (.slice Ao no co) ∧ w'.cell? ⟨w2.heap.size, 8, none⟩ = some (.slice Ab nb cb) ∧ w'.cell? ⟨w2.heap.size, 9, none⟩ = some (.int .i64 0) ∧ w'.cell? ⟨w2.heap.size, 10, none⟩ = some (.bool sy) ∧ w'.cell? ⟨w2.heap.size, 11, none⟩ = some (.bool ac) ∧ w'.cell? ⟨w2.heap.size, 12, none⟩ = some (.bool fi) ∧ w'.cell? ⟨w2.heap.size, 13, none⟩ = some (.bool false)) ∧ w'.cell? ⟨w.heap.size, 0, none⟩ = some (.int .i64 1) ∧ w'.cell? ⟨w.heap.size, 1, none⟩ = some (.bool f0) ∧ w'.cell? ⟨w.heap.size, 2, none⟩ = some (.bool f1) ∧ w'.cell? ⟨w.heap.size, 3, none⟩ = some (.int .u32 a0) ∧ w'.cell? ⟨w.heap.size, 4, none⟩ = some (.int .u32 a1) ∧ w'.cell? ⟨w.heap.size, 5, none⟩ = some (.bool k0) ∧ w'.cell? ⟨w.heap.size, 6, none⟩ = some (.bool k1)) (exact And.intro (cells14 (T := 60) (by repeat (first | with_reducible exact B8 | with_reducible refine Blk.drew ?_ | with_reducible refine Blk.alloc ?_ _ | with_reducible refine Blk.other ?_ (by simp <;> omega) _))) (cells7 (T := 26) (by repeat (first | with_reducible exact B0' | with_reducible refine Blk.drew ?_ | with_reducible refine Blk.alloc ?_ _ | with_reducible refine Blk.other ?_ (by simp <;> omega) _)))) ((go_at_call 25; refine (HBG _).mono ?_; rintro e w3 ⟨rfl, rfl⟩))
        go_wp2_with fail
        exact bodyPost_ret (v := .tuple #[.agg #[.int .i64 (1), .bool f0, .bool f1, .int .u32 a0, .int .u32 a1, .bool k0, .bool k1], .bool true]) (by simp [results, Try.results12, go_sem, *]) rfl (talkR_mk' (d' := (⟨1, f0, f1, a0, a1, k0, k1⟩ : State.C)) HF.out (by repeat (first | with_reducible exact hbW | with_reducible exact hbW' | with_reducible refine Below.drewN ?_ _ | with_reducible refine Below.drew ?_ | with_reducible refine Below.setCell ?_ (by simp <;> omega) _ | with_reducible refine Below.alloc ?_ (by simp <;> omega) _)))
    · have HF : Hid (State.go (⟨1, f0, f1, a0, a1, k0, k1⟩ : State.C) (⟨0, sy, ac, fi, true, Seq.step sq (State.size nb fl), ak⟩ : State.W) = ((⟨7, f0, f1, a0, a1, k0, k1⟩ : State.C), true)) := rfl
      go_wp2_with fail
      exact bodyPost_ret (v := .tuple #[.agg #[.int .i64 (7), .bool f0, .bool f1, .int .u32 a0, .int .u32 a1, .bool k0, .bool k1], .bool true]) (by simp [results, Try.results12, go_sem, *]) rfl (talkR_mk' (d' := (⟨7, f0, f1, a0, a1, k0, k1⟩ : State.C)) HF.out (by repeat (first | with_reducible exact hbW | with_reducible exact hbW' | with_reducible refine Below.drewN ?_ _ | with_reducible refine Below.drew ?_ | with_reducible refine Below.setCell ?_ (by simp <;> omega) _ | with_reducible refine Below.alloc ?_ (by simp <;> omega) _)))
  · cases rs
    · obtain ⟨b, hb⟩ : ∃ b, State.begins (⟨0, sy, ac, fi, false, Seq.step sq (State.size nb fl), ak⟩ : State.W) = b := ⟨_, rfl⟩
      have HBG := fun w => begins_b 0 sp dp sq ak fl wi ur Ao no co Ab nb cb sy ac fi false (Seq.step sq (State.size nb fl)) ak b w hb
      cases b
      ·
        have HF : Hid (State.go (⟨2, f0, f1, a0, a1, k0, k1⟩ : State.C) (⟨0, sy, ac, fi, false, Seq.step sq (State.size nb fl), ak⟩ : State.W) = State.heard (⟨2, f0, f1, a0, a1, k0, k1⟩ : State.C) (⟨0, sy, ac, fi, false, Seq.step sq (State.size nb fl), ak⟩ : State.W)) := by show _ = _; unfold State.go; rw [hb]; rfl
        have HTK := fun w => heard_spec (⟨2, f0, f1, a0, a1, k0, k1⟩ : State.C) sp dp sq ak fl wi ur Ao no co Ab nb cb 0 sy ac fi false w hn (Or.inl rfl) _ rfl
        obtain ⟨r, hr⟩ : ∃ r, State.heard (⟨2, f0, f1, a0, a1, k0, k1⟩ : State.C) (⟨0, sy, ac, fi, false, Seq.step sq (State.size nb fl), ak⟩ : State.W) = r := ⟨_, rfl⟩
        rw [hr] at HTK
        obtain ⟨⟨rt, r0, r1, s0, s1, t0, t1⟩, ok⟩ := r
        have HF2 := Lib.hid (HF.out.trans hr)
        clear HF hr
        clear hb
        go_wp2_with fail
        refine (HBG _).mono ?_
        rintro e w3 ⟨rfl, hw3⟩
        have hb3 := Below.new_of2 hw3
        have B0' := Blk.later (B0.alloc _) hb3
        have B2' := Blk.later (B2.alloc _) hb3
        have B8 := Blk.later (Blk.new w2 60 [.int .i64 sp, .int .i64 dp, .int .u32 sq, .int .u32 ak, .int .i64 fl, .int .i64 wi, .int .i64 ur, .slice Ao no co, .slice Ab nb cb, .int .i64 0, .bool sy, .bool ac, .bool fi, .bool false] _ rfl) hb3
        have hbW' : Below w.heap.size w w3 := Below.trans (hbW.alloc (by omega) _) (hb3.mono (by simp <;> omega))
        have hs3 := hb3.size
        rw [World.heap_size_alloc] at hs3
        clear hw3 hb3 B0 B2 hbW b0 b1 b2 b3 b4 b5 b6 z0 z1 z2 z3 z4 z5 z6 y0 y1 y2 y3 y4 y5 y6 x0 x1 x2 x3 x4 x5 x6
        have hg0' : w.heap.size < w3.heap.size := by omega
        have hg2' : w.heap.size + 1 + 1 < w3.heap.size := by omega
        have hg8' : w2.heap.size < w3.heap.size := by omega
        obtain ⟨b0, b1, b2, b3, b4, b5, b6⟩ := cells7 B0'
        obtain ⟨y0, y1, y2, y3, y4, y5, y6⟩ := cells7 B2'
        obtain ⟨z0, z1, z2, z3, z4, z5, z6⟩ := frozen7 B0'
        obtain ⟨x0, x1, x2, x3, x4, x5, x6⟩ := frozen7 B2'
        obtain ⟨v0, v1, v2, v3, v4, v5, v6, v7, v8, v9, v10, v11, v12, v13⟩ := cells14 B8
        go_wp2_with fail
        refine (HTK _).mono ?_
        intro e w4 htk
        obtain ⟨rfl, hb3⟩ := htk.out
        have Y2 := Blk.later B2' hb3
        have hbY : Below w.heap.size w w4 := Below.trans hbW' (hb3.mono (by omega))
        clear B0' B2' B8 hbW' hb3 htk HTK HBG v0 v1 v2 v3 v4 v5 v6 v7 v8 v9 v10 v11 v12 v13 b0 b1 b2 b3 b4 b5 b6 z0 z1 z2 z3 z4 z5 z6 y0 y1 y2 y3 y4 y5 y6 x0 x1 x2 x3 x4 x5 x6
        obtain ⟨y0, y1, y2, y3, y4, y5, y6⟩ := cells7 Y2
        obtain ⟨x0, x1, x2, x3, x4, x5, x6⟩ := frozen7 Y2
        go_wp2_with fail
        exact bodyPost_ret (v := .tuple #[.agg #[.int .i64 rt, .bool r0, .bool r1, .int .u32 s0, .int .u32 s1, .bool t0, .bool t1], .bool ok]) (by simp [results, Try.results12, go_sem, *]) rfl (talkR_mk' (d' := ⟨rt, r0, r1, s0, s1, t0, t1⟩) HF2.out (by repeat (first | with_reducible exact hbY | with_reducible refine Below.setCell ?_ (by simp <;> omega) _)))
      ·
        have HF : Hid (State.go (⟨2, f0, f1, a0, a1, k0, k1⟩ : State.C) (⟨0, sy, ac, fi, false, Seq.step sq (State.size nb fl), ak⟩ : State.W) = State.heard (⟨2, f0, f1, a0, a1, k0, k1⟩ : State.C) (⟨0, sy, ac, fi, false, Seq.step sq (State.size nb fl), ak⟩ : State.W)) := by show _ = _; unfold State.go; rw [hb]; rfl
        have HTK := fun w => heard_spec (⟨2, f0, f1, a0, a1, k0, k1⟩ : State.C) sp dp sq ak fl wi ur Ao no co Ab nb cb 0 sy ac fi false w hn (Or.inl rfl) _ rfl
        obtain ⟨r, hr⟩ : ∃ r, State.heard (⟨2, f0, f1, a0, a1, k0, k1⟩ : State.C) (⟨0, sy, ac, fi, false, Seq.step sq (State.size nb fl), ak⟩ : State.W) = r := ⟨_, rfl⟩
        rw [hr] at HTK
        obtain ⟨⟨rt, r0, r1, s0, s1, t0, t1⟩, ok⟩ := r
        have HF2 := Lib.hid (HF.out.trans hr)
        clear HF hr
        clear hb
        go_wp2_with fail
        refine (HBG _).mono ?_
        rintro e w3 ⟨rfl, hw3⟩
        have hb3 := Below.new_of2 hw3
        have B0' := Blk.later (B0.alloc _) hb3
        have B2' := Blk.later (B2.alloc _) hb3
        have B8 := Blk.later (Blk.new w2 60 [.int .i64 sp, .int .i64 dp, .int .u32 sq, .int .u32 ak, .int .i64 fl, .int .i64 wi, .int .i64 ur, .slice Ao no co, .slice Ab nb cb, .int .i64 0, .bool sy, .bool ac, .bool fi, .bool false] _ rfl) hb3
        have hbW' : Below w.heap.size w w3 := Below.trans (hbW.alloc (by omega) _) (hb3.mono (by simp <;> omega))
        have hs3 := hb3.size
        rw [World.heap_size_alloc] at hs3
        clear hw3 hb3 B0 B2 hbW b0 b1 b2 b3 b4 b5 b6 z0 z1 z2 z3 z4 z5 z6 y0 y1 y2 y3 y4 y5 y6 x0 x1 x2 x3 x4 x5 x6
        have hg0' : w.heap.size < w3.heap.size := by omega
        have hg2' : w.heap.size + 1 + 1 < w3.heap.size := by omega
        have hg8' : w2.heap.size < w3.heap.size := by omega
        obtain ⟨b0, b1, b2, b3, b4, b5, b6⟩ := cells7 B0'
        obtain ⟨y0, y1, y2, y3, y4, y5, y6⟩ := cells7 B2'
        obtain ⟨z0, z1, z2, z3, z4, z5, z6⟩ := frozen7 B0'
        obtain ⟨x0, x1, x2, x3, x4, x5, x6⟩ := frozen7 B2'
        obtain ⟨v0, v1, v2, v3, v4, v5, v6, v7, v8, v9, v10, v11, v12, v13⟩ := cells14 B8
        go_wp2_with fail
        refine (HTK _).mono ?_
        intro e w4 htk
        obtain ⟨rfl, hb3⟩ := htk.out
        have Y2 := Blk.later B2' hb3
        have hbY : Below w.heap.size w w4 := Below.trans hbW' (hb3.mono (by omega))
        clear B0' B2' B8 hbW' hb3 htk HTK HBG v0 v1 v2 v3 v4 v5 v6 v7 v8 v9 v10 v11 v12 v13 b0 b1 b2 b3 b4 b5 b6 z0 z1 z2 z3 z4 z5 z6 y0 y1 y2 y3 y4 y5 y6 x0 x1 x2 x3 x4 x5 x6
        obtain ⟨y0, y1, y2, y3, y4, y5, y6⟩ := cells7 Y2
        obtain ⟨x0, x1, x2, x3, x4, x5, x6⟩ := frozen7 Y2
        go_wp2_with fail
        exact bodyPost_ret (v := .tuple #[.agg #[.int .i64 rt, .bool r0, .bool r1, .int .u32 s0, .int .u32 s1, .bool t0, .bool t1], .bool ok]) (by simp [results, Try.results12, go_sem, *]) rfl (talkR_mk' (d' := ⟨rt, r0, r1, s0, s1, t0, t1⟩) HF2.out (by repeat (first | with_reducible exact hbY | with_reducible refine Below.setCell ?_ (by simp <;> omega) _)))
    · have HF : Hid (State.go (⟨2, f0, f1, a0, a1, k0, k1⟩ : State.C) (⟨0, sy, ac, fi, true, Seq.step sq (State.size nb fl), ak⟩ : State.W) = ((⟨7, f0, f1, a0, a1, k0, k1⟩ : State.C), true)) := rfl
      go_wp2_with fail
      exact bodyPost_ret (v := .tuple #[.agg #[.int .i64 (7), .bool f0, .bool f1, .int .u32 a0, .int .u32 a1, .bool k0, .bool k1], .bool true]) (by simp [results, Try.results12, go_sem, *]) rfl (talkR_mk' (d' := (⟨7, f0, f1, a0, a1, k0, k1⟩ : State.C)) HF.out (by repeat (first | with_reducible exact hbW | with_reducible exact hbW' | with_reducible refine Below.drewN ?_ _ | with_reducible refine Below.drew ?_ | with_reducible refine Below.setCell ?_ (by simp <;> omega) _ | with_reducible refine Below.alloc ?_ (by simp <;> omega) _)))
  · cases rs
    · obtain ⟨b, hb⟩ : ∃ b, State.begins (⟨0, sy, ac, fi, false, Seq.step sq (State.size nb fl), ak⟩ : State.W) = b := ⟨_, rfl⟩
      have HBG := fun w => begins_b 0 sp dp sq ak fl wi ur Ao no co Ab nb cb sy ac fi false (Seq.step sq (State.size nb fl)) ak b w hb
      cases b
      ·
        have HF : Hid (State.go (⟨3, f0, f1, a0, a1, k0, k1⟩ : State.C) (⟨0, sy, ac, fi, false, Seq.step sq (State.size nb fl), ak⟩ : State.W) = State.talk (⟨3, f0, f1, a0, a1, k0, k1⟩ : State.C) (⟨0, sy, ac, fi, false, Seq.step sq (State.size nb fl), ak⟩ : State.W)) := by show _ = _; unfold State.go; rw [hb]; rfl
        have HTK := fun w => talk_spec (⟨3, f0, f1, a0, a1, k0, k1⟩ : State.C) sp dp sq ak fl wi ur Ao no co Ab nb cb 0 sy ac fi false w hn (Or.inl rfl) _ rfl
        obtain ⟨r, hr⟩ : ∃ r, State.talk (⟨3, f0, f1, a0, a1, k0, k1⟩ : State.C) (⟨0, sy, ac, fi, false, Seq.step sq (State.size nb fl), ak⟩ : State.W) = r := ⟨_, rfl⟩
        rw [hr] at HTK
        obtain ⟨⟨rt, r0, r1, s0, s1, t0, t1⟩, ok⟩ := r
        have HF2 := Lib.hid (HF.out.trans hr)
        clear HF hr
        clear hb
        go_wp2_with fail
        refine (HBG _).mono ?_
        rintro e w3 ⟨rfl, hw3⟩
        have hb3 := Below.new_of2 hw3
        have B0' := Blk.later (B0.alloc _) hb3
        have B2' := Blk.later (B2.alloc _) hb3
        have B8 := Blk.later (Blk.new w2 60 [.int .i64 sp, .int .i64 dp, .int .u32 sq, .int .u32 ak, .int .i64 fl, .int .i64 wi, .int .i64 ur, .slice Ao no co, .slice Ab nb cb, .int .i64 0, .bool sy, .bool ac, .bool fi, .bool false] _ rfl) hb3
        have hbW' : Below w.heap.size w w3 := Below.trans (hbW.alloc (by omega) _) (hb3.mono (by simp <;> omega))
        have hs3 := hb3.size
        rw [World.heap_size_alloc] at hs3
        clear hw3 hb3 B0 B2 hbW b0 b1 b2 b3 b4 b5 b6 z0 z1 z2 z3 z4 z5 z6 y0 y1 y2 y3 y4 y5 y6 x0 x1 x2 x3 x4 x5 x6
        have hg0' : w.heap.size < w3.heap.size := by omega
        have hg2' : w.heap.size + 1 + 1 < w3.heap.size := by omega
        have hg8' : w2.heap.size < w3.heap.size := by omega
        obtain ⟨b0, b1, b2, b3, b4, b5, b6⟩ := cells7 B0'
        obtain ⟨y0, y1, y2, y3, y4, y5, y6⟩ := cells7 B2'
        obtain ⟨z0, z1, z2, z3, z4, z5, z6⟩ := frozen7 B0'
        obtain ⟨x0, x1, x2, x3, x4, x5, x6⟩ := frozen7 B2'
        obtain ⟨v0, v1, v2, v3, v4, v5, v6, v7, v8, v9, v10, v11, v12, v13⟩ := cells14 B8
        go_wp2_with fail
        refine (HTK _).mono ?_
        intro e w4 htk
        obtain ⟨rfl, hb3⟩ := htk.out
        have Y2 := Blk.later B2' hb3
        have hbY : Below w.heap.size w w4 := Below.trans hbW' (hb3.mono (by omega))
        clear B0' B2' B8 hbW' hb3 htk HTK HBG v0 v1 v2 v3 v4 v5 v6 v7 v8 v9 v10 v11 v12 v13 b0 b1 b2 b3 b4 b5 b6 z0 z1 z2 z3 z4 z5 z6 y0 y1 y2 y3 y4 y5 y6 x0 x1 x2 x3 x4 x5 x6
        obtain ⟨y0, y1, y2, y3, y4, y5, y6⟩ := cells7 Y2
        obtain ⟨x0, x1, x2, x3, x4, x5, x6⟩ := frozen7 Y2
        go_wp2_with fail
        exact bodyPost_ret (v := .tuple #[.agg #[.int .i64 rt, .bool r0, .bool r1, .int .u32 s0, .int .u32 s1, .bool t0, .bool t1], .bool ok]) (by simp [results, Try.results12, go_sem, *]) rfl (talkR_mk' (d' := ⟨rt, r0, r1, s0, s1, t0, t1⟩) HF2.out (by repeat (first | with_reducible exact hbY | with_reducible refine Below.setCell ?_ (by simp <;> omega) _)))
      ·
        have HF : Hid (State.go (⟨3, f0, f1, a0, a1, k0, k1⟩ : State.C) (⟨0, sy, ac, fi, false, Seq.step sq (State.size nb fl), ak⟩ : State.W) = State.talk (⟨3, f0, f1, a0, a1, k0, k1⟩ : State.C) (⟨0, sy, ac, fi, false, Seq.step sq (State.size nb fl), ak⟩ : State.W)) := by show _ = _; unfold State.go; rw [hb]; rfl
        have HTK := fun w => talk_spec (⟨3, f0, f1, a0, a1, k0, k1⟩ : State.C) sp dp sq ak fl wi ur Ao no co Ab nb cb 0 sy ac fi false w hn (Or.inl rfl) _ rfl
        obtain ⟨r, hr⟩ : ∃ r, State.talk (⟨3, f0, f1, a0, a1, k0, k1⟩ : State.C) (⟨0, sy, ac, fi, false, Seq.step sq (State.size nb fl), ak⟩ : State.W) = r := ⟨_, rfl⟩
        rw [hr] at HTK
        obtain ⟨⟨rt, r0, r1, s0, s1, t0, t1⟩, ok⟩ := r
        have HF2 := Lib.hid (HF.out.trans hr)
        clear HF hr
        clear hb
        go_wp2_with fail
        refine (HBG _).mono ?_
        rintro e w3 ⟨rfl, hw3⟩
        have hb3 := Below.new_of2 hw3
        have B0' := Blk.later (B0.alloc _) hb3
        have B2' := Blk.later (B2.alloc _) hb3
        have B8 := Blk.later (Blk.new w2 60 [.int .i64 sp, .int .i64 dp, .int .u32 sq, .int .u32 ak, .int .i64 fl, .int .i64 wi, .int .i64 ur, .slice Ao no co, .slice Ab nb cb, .int .i64 0, .bool sy, .bool ac, .bool fi, .bool false] _ rfl) hb3
        have hbW' : Below w.heap.size w w3 := Below.trans (hbW.alloc (by omega) _) (hb3.mono (by simp <;> omega))
        have hs3 := hb3.size
        rw [World.heap_size_alloc] at hs3
        clear hw3 hb3 B0 B2 hbW b0 b1 b2 b3 b4 b5 b6 z0 z1 z2 z3 z4 z5 z6 y0 y1 y2 y3 y4 y5 y6 x0 x1 x2 x3 x4 x5 x6
        have hg0' : w.heap.size < w3.heap.size := by omega
        have hg2' : w.heap.size + 1 + 1 < w3.heap.size := by omega
        have hg8' : w2.heap.size < w3.heap.size := by omega
        obtain ⟨b0, b1, b2, b3, b4, b5, b6⟩ := cells7 B0'
        obtain ⟨y0, y1, y2, y3, y4, y5, y6⟩ := cells7 B2'
        obtain ⟨z0, z1, z2, z3, z4, z5, z6⟩ := frozen7 B0'
        obtain ⟨x0, x1, x2, x3, x4, x5, x6⟩ := frozen7 B2'
        obtain ⟨v0, v1, v2, v3, v4, v5, v6, v7, v8, v9, v10, v11, v12, v13⟩ := cells14 B8
        go_wp2_with fail
        refine (HTK _).mono ?_
        intro e w4 htk
        obtain ⟨rfl, hb3⟩ := htk.out
        have Y2 := Blk.later B2' hb3
        have hbY : Below w.heap.size w w4 := Below.trans hbW' (hb3.mono (by omega))
        clear B0' B2' B8 hbW' hb3 htk HTK HBG v0 v1 v2 v3 v4 v5 v6 v7 v8 v9 v10 v11 v12 v13 b0 b1 b2 b3 b4 b5 b6 z0 z1 z2 z3 z4 z5 z6 y0 y1 y2 y3 y4 y5 y6 x0 x1 x2 x3 x4 x5 x6
        obtain ⟨y0, y1, y2, y3, y4, y5, y6⟩ := cells7 Y2
        obtain ⟨x0, x1, x2, x3, x4, x5, x6⟩ := frozen7 Y2
        go_wp2_with fail
        exact bodyPost_ret (v := .tuple #[.agg #[.int .i64 rt, .bool r0, .bool r1, .int .u32 s0, .int .u32 s1, .bool t0, .bool t1], .bool ok]) (by simp [results, Try.results12, go_sem, *]) rfl (talkR_mk' (d' := ⟨rt, r0, r1, s0, s1, t0, t1⟩) HF2.out (by repeat (first | with_reducible exact hbY | with_reducible refine Below.setCell ?_ (by simp <;> omega) _)))
    · have HF : Hid (State.go (⟨3, f0, f1, a0, a1, k0, k1⟩ : State.C) (⟨0, sy, ac, fi, true, Seq.step sq (State.size nb fl), ak⟩ : State.W) = ((⟨7, f0, f1, a0, a1, k0, k1⟩ : State.C), true)) := rfl
      go_wp2_with fail
      exact bodyPost_ret (v := .tuple #[.agg #[.int .i64 (7), .bool f0, .bool f1, .int .u32 a0, .int .u32 a1, .bool k0, .bool k1], .bool true]) (by simp [results, Try.results12, go_sem, *]) rfl (talkR_mk' (d' := (⟨7, f0, f1, a0, a1, k0, k1⟩ : State.C)) HF.out (by repeat (first | with_reducible exact hbW | with_reducible exact hbW' | with_reducible refine Below.drewN ?_ _ | with_reducible refine Below.drew ?_ | with_reducible refine Below.setCell ?_ (by simp <;> omega) _ | with_reducible refine Below.alloc ?_ (by simp <;> omega) _)))
set_option maxHeartbeats 16000000 in
theorem step_go0b (st a0 a1 : Int) (f0 f1 k0 k1 : Bool) (sp dp sq ak fl wi ur : Int) (Ao : Option Addr) (no co : Nat) (Ab : Option Addr) (nb cb : Nat) (sy ac fi rs : Bool) (hsy : Hid (State.has fl 2 = sy)) (hac : Hid (State.has fl 16 = ac)) (hfi : Hid (State.has fl 1 = fi)) (hrs : Hid (State.has fl 4 = rs)) (w : World) (hn : nb ≤ 4294967295) (hR : State.rightB (⟨st, f0, f1, a0, a1, k0, k1⟩ : State.C) = true) (hst : Hid (st = 4 ∨ st = 5 ∨ st = 6 ∨ st = 7)) :
    Calls Try.prog 12 #[.agg #[.int .i64 (st), .bool f0, .bool f1, .int .u32 a0, .int .u32 a1, .bool k0, .bool k1], .int .i64 0, .agg #[.int .i64 sp, .int .i64 dp, .int .u32 sq, .int .u32 ak, .int .i64 fl, .int .i64 wi, .int .i64 ur, .slice Ao no co, .slice Ab nb cb]] w (TalkR (State.go (⟨st, f0, f1, a0, a1, k0, k1⟩ : State.C) (⟨0, sy, ac, fi, rs, Seq.step sq (State.size nb fl), ak⟩ : State.W)).1 (State.go (⟨st, f0, f1, a0, a1, k0, k1⟩ : State.C) (⟨0, sy, ac, fi, rs, Seq.step sq (State.size nb fl), ak⟩ : State.W)).2 w) := by
  obtain ⟨W, hW⟩ : ∃ W, W = ((w.alloc (.cells #[.int .i64 (st), .bool f0, .bool f1, .int .u32 a0, .int .u32 a1, .bool k0, .bool k1] 26)).alloc (.cells #[.int .i64 sp, .int .i64 dp, .int .u32 sq, .int .u32 ak, .int .i64 fl, .int .i64 wi, .int .i64 ur, .slice Ao no co, .slice Ab nb cb] 30)).alloc (.cells #[.int .i64 0, .bool false, .bool false, .int .u32 0, .int .u32 0, .bool false, .bool false] 26) := ⟨_, rfl⟩
  have hbW : Below w.heap.size w W := (by rw [hW]; exact (((Below.refl _ _).alloc (Nat.le_refl _) _).alloc (by simp) _).alloc (by simp; omega) _)
  have B0 : Blk W w.heap.size 26 [.int .i64 (st), .bool f0, .bool f1, .int .u32 a0, .int .u32 a1, .bool k0, .bool k1] := (by rw [hW]; exact ((Blk.new _ _ [.int .i64 (st), .bool f0, .bool f1, .int .u32 a0, .int .u32 a1, .bool k0, .bool k1] _ rfl).alloc _).alloc _)
  have B1 : Blk W (w.heap.size + 1) 30 [.int .i64 sp, .int .i64 dp, .int .u32 sq, .int .u32 ak, .int .i64 fl, .int .i64 wi, .int .i64 ur, .slice Ao no co, .slice Ab nb cb] := (by rw [hW]; exact (Blk.new _ _ [.int .i64 sp, .int .i64 dp, .int .u32 sq, .int .u32 ak, .int .i64 fl, .int .i64 wi, .int .i64 ur, .slice Ao no co, .slice Ab nb cb] _ (by simp)).alloc _)
  have B2 : Blk W (w.heap.size + 1 + 1) 26 [.int .i64 0, .bool false, .bool false, .int .u32 0, .int .u32 0, .bool false, .bool false] := (by rw [hW]; exact (Blk.new _ _ [.int .i64 0, .bool false, .bool false, .int .u32 0, .int .u32 0, .bool false, .bool false] _ (by simp)))
  have hWs : w.heap.size + 3 ≤ W.heap.size := (by rw [hW]; simp)
  go_enter Try.func12, Try.ntmps12
  go_wp2_with fail
  rw [← hW]
  clear hW
  refine (sright_spec (⟨st, f0, f1, a0, a1, k0, k1⟩ : State.C) _).mono ?_
  rintro e w1 ⟨rfl, hb1⟩
  have B0' := B0.later hb1
  have B1' := B1.later hb1
  have B2' := B2.later hb1
  have hbW1 := bel_then hbW hb1
  have hs1 := hb1.size
  clear B0 B1 B2 hbW
  have hg0 : w.heap.size < w1.heap.size := by omega
  have hg1 : w.heap.size + 1 < w1.heap.size := by omega
  have hg2 : w.heap.size + 1 + 1 < w1.heap.size := by omega
  obtain ⟨m0, m1, m2, m3, m4, m5, m6, m7, m8⟩ := cells9 B1'
  go_wp2_with fail
  refine (said_spec 0 sp dp sq ak fl wi ur Ao no co Ab nb cb _).mono ?_
  rintro e w2 ⟨rfl, hb2⟩
  have B0 := B0'.later hb2
  have B2 := B2'.later hb2
  have hbW := bel_then hbW1 hb2
  have hs2 := hb2.size
  clear B0' B1' B2' hbW1 hb1 hb2 m0 m1 m2 m3 m4 m5 m6 m7 m8 hg0 hg1 hg2 hR
  have hg0 : w.heap.size < w2.heap.size := by omega
  have hg2 : w.heap.size + 1 + 1 < w2.heap.size := by omega
  have hl0 : w.heap.size ≤ w2.heap.size := by omega
  have hl2 : w.heap.size + 1 + 1 ≤ w2.heap.size := by omega
  have hn0 : ¬ w2.heap.size = w.heap.size := by omega
  have hn2 : ¬ w2.heap.size = w.heap.size + 1 + 1 := by omega
  clear hWs hs1 hs2
  obtain ⟨b0, b1, b2, b3, b4, b5, b6⟩ := cells7 B0
  obtain ⟨z0, z1, z2, z3, z4, z5, z6⟩ := frozen7 B0
  obtain ⟨y0, y1, y2, y3, y4, y5, y6⟩ := cells7 B2
  obtain ⟨x0, x1, x2, x3, x4, x5, x6⟩ := frozen7 B2
  rw [hsy.out, hac.out, hfi.out, hrs.out]
  clear hsy hac hfi hrs
  have hst' := hst.out
  clear hst
  rcases hst' with rfl | rfl | rfl | rfl
  · cases rs
    · obtain ⟨b, hb⟩ : ∃ b, State.begins (⟨0, sy, ac, fi, false, Seq.step sq (State.size nb fl), ak⟩ : State.W) = b := ⟨_, rfl⟩
      have HBG := fun w => begins_b 0 sp dp sq ak fl wi ur Ao no co Ab nb cb sy ac fi false (Seq.step sq (State.size nb fl)) ak b w hb
      cases b
      ·
        have HF : Hid (State.go (⟨4, f0, f1, a0, a1, k0, k1⟩ : State.C) (⟨0, sy, ac, fi, false, Seq.step sq (State.size nb fl), ak⟩ : State.W) = State.talk (⟨4, f0, f1, a0, a1, k0, k1⟩ : State.C) (⟨0, sy, ac, fi, false, Seq.step sq (State.size nb fl), ak⟩ : State.W)) := by show _ = _; unfold State.go; rw [hb]; rfl
        have HTK := fun w => talk_spec (⟨4, f0, f1, a0, a1, k0, k1⟩ : State.C) sp dp sq ak fl wi ur Ao no co Ab nb cb 0 sy ac fi false w hn (Or.inl rfl) _ rfl
        obtain ⟨r, hr⟩ : ∃ r, State.talk (⟨4, f0, f1, a0, a1, k0, k1⟩ : State.C) (⟨0, sy, ac, fi, false, Seq.step sq (State.size nb fl), ak⟩ : State.W) = r := ⟨_, rfl⟩
        rw [hr] at HTK
        obtain ⟨⟨rt, r0, r1, s0, s1, t0, t1⟩, ok⟩ := r
        have HF2 := Lib.hid (HF.out.trans hr)
        clear HF hr
        clear hb
        go_wp2_with fail
        refine (HBG _).mono ?_
        rintro e w3 ⟨rfl, hw3⟩
        have hb3 := Below.new_of2 hw3
        have B0' := Blk.later (B0.alloc _) hb3
        have B2' := Blk.later (B2.alloc _) hb3
        have B8 := Blk.later (Blk.new w2 60 [.int .i64 sp, .int .i64 dp, .int .u32 sq, .int .u32 ak, .int .i64 fl, .int .i64 wi, .int .i64 ur, .slice Ao no co, .slice Ab nb cb, .int .i64 0, .bool sy, .bool ac, .bool fi, .bool false] _ rfl) hb3
        have hbW' : Below w.heap.size w w3 := Below.trans (hbW.alloc (by omega) _) (hb3.mono (by simp <;> omega))
        have hs3 := hb3.size
        rw [World.heap_size_alloc] at hs3
        clear hw3 hb3 B0 B2 hbW b0 b1 b2 b3 b4 b5 b6 z0 z1 z2 z3 z4 z5 z6 y0 y1 y2 y3 y4 y5 y6 x0 x1 x2 x3 x4 x5 x6
        have hg0' : w.heap.size < w3.heap.size := by omega
        have hg2' : w.heap.size + 1 + 1 < w3.heap.size := by omega
        have hg8' : w2.heap.size < w3.heap.size := by omega
        obtain ⟨b0, b1, b2, b3, b4, b5, b6⟩ := cells7 B0'
        obtain ⟨y0, y1, y2, y3, y4, y5, y6⟩ := cells7 B2'
        obtain ⟨z0, z1, z2, z3, z4, z5, z6⟩ := frozen7 B0'
        obtain ⟨x0, x1, x2, x3, x4, x5, x6⟩ := frozen7 B2'
        obtain ⟨v0, v1, v2, v3, v4, v5, v6, v7, v8, v9, v10, v11, v12, v13⟩ := cells14 B8
        go_wp2_with fail
        refine (HTK _).mono ?_
        intro e w4 htk
        obtain ⟨rfl, hb3⟩ := htk.out
        have Y2 := Blk.later B2' hb3
        have hbY : Below w.heap.size w w4 := Below.trans hbW' (hb3.mono (by omega))
        clear B0' B2' B8 hbW' hb3 htk HTK HBG v0 v1 v2 v3 v4 v5 v6 v7 v8 v9 v10 v11 v12 v13 b0 b1 b2 b3 b4 b5 b6 z0 z1 z2 z3 z4 z5 z6 y0 y1 y2 y3 y4 y5 y6 x0 x1 x2 x3 x4 x5 x6
        obtain ⟨y0, y1, y2, y3, y4, y5, y6⟩ := cells7 Y2
        obtain ⟨x0, x1, x2, x3, x4, x5, x6⟩ := frozen7 Y2
        go_wp2_with fail
        exact bodyPost_ret (v := .tuple #[.agg #[.int .i64 rt, .bool r0, .bool r1, .int .u32 s0, .int .u32 s1, .bool t0, .bool t1], .bool ok]) (by simp [results, Try.results12, go_sem, *]) rfl (talkR_mk' (d' := ⟨rt, r0, r1, s0, s1, t0, t1⟩) HF2.out (by repeat (first | with_reducible exact hbY | with_reducible refine Below.setCell ?_ (by simp <;> omega) _)))
      ·
        have HF : Hid (State.go (⟨4, f0, f1, a0, a1, k0, k1⟩ : State.C) (⟨0, sy, ac, fi, false, Seq.step sq (State.size nb fl), ak⟩ : State.W) = State.talk (⟨4, f0, f1, a0, a1, k0, k1⟩ : State.C) (⟨0, sy, ac, fi, false, Seq.step sq (State.size nb fl), ak⟩ : State.W)) := by show _ = _; unfold State.go; rw [hb]; rfl
        have HTK := fun w => talk_spec (⟨4, f0, f1, a0, a1, k0, k1⟩ : State.C) sp dp sq ak fl wi ur Ao no co Ab nb cb 0 sy ac fi false w hn (Or.inl rfl) _ rfl
        obtain ⟨r, hr⟩ : ∃ r, State.talk (⟨4, f0, f1, a0, a1, k0, k1⟩ : State.C) (⟨0, sy, ac, fi, false, Seq.step sq (State.size nb fl), ak⟩ : State.W) = r := ⟨_, rfl⟩
        rw [hr] at HTK
        obtain ⟨⟨rt, r0, r1, s0, s1, t0, t1⟩, ok⟩ := r
        have HF2 := Lib.hid (HF.out.trans hr)
        clear HF hr
        clear hb
        go_wp2_with fail
        refine (HBG _).mono ?_
        rintro e w3 ⟨rfl, hw3⟩
        have hb3 := Below.new_of2 hw3
        have B0' := Blk.later (B0.alloc _) hb3
        have B2' := Blk.later (B2.alloc _) hb3
        have B8 := Blk.later (Blk.new w2 60 [.int .i64 sp, .int .i64 dp, .int .u32 sq, .int .u32 ak, .int .i64 fl, .int .i64 wi, .int .i64 ur, .slice Ao no co, .slice Ab nb cb, .int .i64 0, .bool sy, .bool ac, .bool fi, .bool false] _ rfl) hb3
        have hbW' : Below w.heap.size w w3 := Below.trans (hbW.alloc (by omega) _) (hb3.mono (by simp <;> omega))
        have hs3 := hb3.size
        rw [World.heap_size_alloc] at hs3
        clear hw3 hb3 B0 B2 hbW b0 b1 b2 b3 b4 b5 b6 z0 z1 z2 z3 z4 z5 z6 y0 y1 y2 y3 y4 y5 y6 x0 x1 x2 x3 x4 x5 x6
        have hg0' : w.heap.size < w3.heap.size := by omega
        have hg2' : w.heap.size + 1 + 1 < w3.heap.size := by omega
        have hg8' : w2.heap.size < w3.heap.size := by omega
        obtain ⟨b0, b1, b2, b3, b4, b5, b6⟩ := cells7 B0'
        obtain ⟨y0, y1, y2, y3, y4, y5, y6⟩ := cells7 B2'
        obtain ⟨z0, z1, z2, z3, z4, z5, z6⟩ := frozen7 B0'
        obtain ⟨x0, x1, x2, x3, x4, x5, x6⟩ := frozen7 B2'
        obtain ⟨v0, v1, v2, v3, v4, v5, v6, v7, v8, v9, v10, v11, v12, v13⟩ := cells14 B8
        go_wp2_with fail
        refine (HTK _).mono ?_
        intro e w4 htk
        obtain ⟨rfl, hb3⟩ := htk.out
        have Y2 := Blk.later B2' hb3
        have hbY : Below w.heap.size w w4 := Below.trans hbW' (hb3.mono (by omega))
        clear B0' B2' B8 hbW' hb3 htk HTK HBG v0 v1 v2 v3 v4 v5 v6 v7 v8 v9 v10 v11 v12 v13 b0 b1 b2 b3 b4 b5 b6 z0 z1 z2 z3 z4 z5 z6 y0 y1 y2 y3 y4 y5 y6 x0 x1 x2 x3 x4 x5 x6
        obtain ⟨y0, y1, y2, y3, y4, y5, y6⟩ := cells7 Y2
        obtain ⟨x0, x1, x2, x3, x4, x5, x6⟩ := frozen7 Y2
        go_wp2_with fail
        exact bodyPost_ret (v := .tuple #[.agg #[.int .i64 rt, .bool r0, .bool r1, .int .u32 s0, .int .u32 s1, .bool t0, .bool t1], .bool ok]) (by simp [results, Try.results12, go_sem, *]) rfl (talkR_mk' (d' := ⟨rt, r0, r1, s0, s1, t0, t1⟩) HF2.out (by repeat (first | with_reducible exact hbY | with_reducible refine Below.setCell ?_ (by simp <;> omega) _)))
    · have HF : Hid (State.go (⟨4, f0, f1, a0, a1, k0, k1⟩ : State.C) (⟨0, sy, ac, fi, true, Seq.step sq (State.size nb fl), ak⟩ : State.W) = ((⟨7, f0, f1, a0, a1, k0, k1⟩ : State.C), true)) := rfl
      go_wp2_with fail
      exact bodyPost_ret (v := .tuple #[.agg #[.int .i64 (7), .bool f0, .bool f1, .int .u32 a0, .int .u32 a1, .bool k0, .bool k1], .bool true]) (by simp [results, Try.results12, go_sem, *]) rfl (talkR_mk' (d' := (⟨7, f0, f1, a0, a1, k0, k1⟩ : State.C)) HF.out (by repeat (first | with_reducible exact hbW | with_reducible exact hbW' | with_reducible refine Below.drewN ?_ _ | with_reducible refine Below.drew ?_ | with_reducible refine Below.setCell ?_ (by simp <;> omega) _ | with_reducible refine Below.alloc ?_ (by simp <;> omega) _)))
  · cases rs
    · obtain ⟨b, hb⟩ : ∃ b, State.begins (⟨0, sy, ac, fi, false, Seq.step sq (State.size nb fl), ak⟩ : State.W) = b := ⟨_, rfl⟩
      have HBG := fun w => begins_b 0 sp dp sq ak fl wi ur Ao no co Ab nb cb sy ac fi false (Seq.step sq (State.size nb fl)) ak b w hb
      cases b
      ·
        have HF : Hid (State.go (⟨5, f0, f1, a0, a1, k0, k1⟩ : State.C) (⟨0, sy, ac, fi, false, Seq.step sq (State.size nb fl), ak⟩ : State.W) = State.talk (⟨5, f0, f1, a0, a1, k0, k1⟩ : State.C) (⟨0, sy, ac, fi, false, Seq.step sq (State.size nb fl), ak⟩ : State.W)) := by show _ = _; unfold State.go; rw [hb]; rfl
        have HTK := fun w => talk_spec (⟨5, f0, f1, a0, a1, k0, k1⟩ : State.C) sp dp sq ak fl wi ur Ao no co Ab nb cb 0 sy ac fi false w hn (Or.inl rfl) _ rfl
        obtain ⟨r, hr⟩ : ∃ r, State.talk (⟨5, f0, f1, a0, a1, k0, k1⟩ : State.C) (⟨0, sy, ac, fi, false, Seq.step sq (State.size nb fl), ak⟩ : State.W) = r := ⟨_, rfl⟩
        rw [hr] at HTK
        obtain ⟨⟨rt, r0, r1, s0, s1, t0, t1⟩, ok⟩ := r
        have HF2 := Lib.hid (HF.out.trans hr)
        clear HF hr
        clear hb
        go_wp2_with fail
        refine (HBG _).mono ?_
        rintro e w3 ⟨rfl, hw3⟩
        have hb3 := Below.new_of2 hw3
        have B0' := Blk.later (B0.alloc _) hb3
        have B2' := Blk.later (B2.alloc _) hb3
        have B8 := Blk.later (Blk.new w2 60 [.int .i64 sp, .int .i64 dp, .int .u32 sq, .int .u32 ak, .int .i64 fl, .int .i64 wi, .int .i64 ur, .slice Ao no co, .slice Ab nb cb, .int .i64 0, .bool sy, .bool ac, .bool fi, .bool false] _ rfl) hb3
        have hbW' : Below w.heap.size w w3 := Below.trans (hbW.alloc (by omega) _) (hb3.mono (by simp <;> omega))
        have hs3 := hb3.size
        rw [World.heap_size_alloc] at hs3
        clear hw3 hb3 B0 B2 hbW b0 b1 b2 b3 b4 b5 b6 z0 z1 z2 z3 z4 z5 z6 y0 y1 y2 y3 y4 y5 y6 x0 x1 x2 x3 x4 x5 x6
        have hg0' : w.heap.size < w3.heap.size := by omega
        have hg2' : w.heap.size + 1 + 1 < w3.heap.size := by omega
        have hg8' : w2.heap.size < w3.heap.size := by omega
        obtain ⟨b0, b1, b2, b3, b4, b5, b6⟩ := cells7 B0'
        obtain ⟨y0, y1, y2, y3, y4, y5, y6⟩ := cells7 B2'
        obtain ⟨z0, z1, z2, z3, z4, z5, z6⟩ := frozen7 B0'
        obtain ⟨x0, x1, x2, x3, x4, x5, x6⟩ := frozen7 B2'
        obtain ⟨v0, v1, v2, v3, v4, v5, v6, v7, v8, v9, v10, v11, v12, v13⟩ := cells14 B8
        go_wp2_with fail
        refine (HTK _).mono ?_
        intro e w4 htk
        obtain ⟨rfl, hb3⟩ := htk.out
        have Y2 := Blk.later B2' hb3
        have hbY : Below w.heap.size w w4 := Below.trans hbW' (hb3.mono (by omega))
        clear B0' B2' B8 hbW' hb3 htk HTK HBG v0 v1 v2 v3 v4 v5 v6 v7 v8 v9 v10 v11 v12 v13 b0 b1 b2 b3 b4 b5 b6 z0 z1 z2 z3 z4 z5 z6 y0 y1 y2 y3 y4 y5 y6 x0 x1 x2 x3 x4 x5 x6
        obtain ⟨y0, y1, y2, y3, y4, y5, y6⟩ := cells7 Y2
        obtain ⟨x0, x1, x2, x3, x4, x5, x6⟩ := frozen7 Y2
        go_wp2_with fail
        exact bodyPost_ret (v := .tuple #[.agg #[.int .i64 rt, .bool r0, .bool r1, .int .u32 s0, .int .u32 s1, .bool t0, .bool t1], .bool ok]) (by simp [results, Try.results12, go_sem, *]) rfl (talkR_mk' (d' := ⟨rt, r0, r1, s0, s1, t0, t1⟩) HF2.out (by repeat (first | with_reducible exact hbY | with_reducible refine Below.setCell ?_ (by simp <;> omega) _)))
      ·
        have HF : Hid (State.go (⟨5, f0, f1, a0, a1, k0, k1⟩ : State.C) (⟨0, sy, ac, fi, false, Seq.step sq (State.size nb fl), ak⟩ : State.W) = State.talk (⟨5, f0, f1, a0, a1, k0, k1⟩ : State.C) (⟨0, sy, ac, fi, false, Seq.step sq (State.size nb fl), ak⟩ : State.W)) := by show _ = _; unfold State.go; rw [hb]; rfl
        have HTK := fun w => talk_spec (⟨5, f0, f1, a0, a1, k0, k1⟩ : State.C) sp dp sq ak fl wi ur Ao no co Ab nb cb 0 sy ac fi false w hn (Or.inl rfl) _ rfl
        obtain ⟨r, hr⟩ : ∃ r, State.talk (⟨5, f0, f1, a0, a1, k0, k1⟩ : State.C) (⟨0, sy, ac, fi, false, Seq.step sq (State.size nb fl), ak⟩ : State.W) = r := ⟨_, rfl⟩
        rw [hr] at HTK
        obtain ⟨⟨rt, r0, r1, s0, s1, t0, t1⟩, ok⟩ := r
        have HF2 := Lib.hid (HF.out.trans hr)
        clear HF hr
        clear hb
        go_wp2_with fail
        refine (HBG _).mono ?_
        rintro e w3 ⟨rfl, hw3⟩
        have hb3 := Below.new_of2 hw3
        have B0' := Blk.later (B0.alloc _) hb3
        have B2' := Blk.later (B2.alloc _) hb3
        have B8 := Blk.later (Blk.new w2 60 [.int .i64 sp, .int .i64 dp, .int .u32 sq, .int .u32 ak, .int .i64 fl, .int .i64 wi, .int .i64 ur, .slice Ao no co, .slice Ab nb cb, .int .i64 0, .bool sy, .bool ac, .bool fi, .bool false] _ rfl) hb3
        have hbW' : Below w.heap.size w w3 := Below.trans (hbW.alloc (by omega) _) (hb3.mono (by simp <;> omega))
        have hs3 := hb3.size
        rw [World.heap_size_alloc] at hs3
        clear hw3 hb3 B0 B2 hbW b0 b1 b2 b3 b4 b5 b6 z0 z1 z2 z3 z4 z5 z6 y0 y1 y2 y3 y4 y5 y6 x0 x1 x2 x3 x4 x5 x6
        have hg0' : w.heap.size < w3.heap.size := by omega
        have hg2' : w.heap.size + 1 + 1 < w3.heap.size := by omega
        have hg8' : w2.heap.size < w3.heap.size := by omega
        obtain ⟨b0, b1, b2, b3, b4, b5, b6⟩ := cells7 B0'
        obtain ⟨y0, y1, y2, y3, y4, y5, y6⟩ := cells7 B2'
        obtain ⟨z0, z1, z2, z3, z4, z5, z6⟩ := frozen7 B0'
        obtain ⟨x0, x1, x2, x3, x4, x5, x6⟩ := frozen7 B2'
        obtain ⟨v0, v1, v2, v3, v4, v5, v6, v7, v8, v9, v10, v11, v12, v13⟩ := cells14 B8
        go_wp2_with fail
        refine (HTK _).mono ?_
        intro e w4 htk
        obtain ⟨rfl, hb3⟩ := htk.out
        have Y2 := Blk.later B2' hb3
        have hbY : Below w.heap.size w w4 := Below.trans hbW' (hb3.mono (by omega))
        clear B0' B2' B8 hbW' hb3 htk HTK HBG v0 v1 v2 v3 v4 v5 v6 v7 v8 v9 v10 v11 v12 v13 b0 b1 b2 b3 b4 b5 b6 z0 z1 z2 z3 z4 z5 z6 y0 y1 y2 y3 y4 y5 y6 x0 x1 x2 x3 x4 x5 x6
        obtain ⟨y0, y1, y2, y3, y4, y5, y6⟩ := cells7 Y2
        obtain ⟨x0, x1, x2, x3, x4, x5, x6⟩ := frozen7 Y2
        go_wp2_with fail
        exact bodyPost_ret (v := .tuple #[.agg #[.int .i64 rt, .bool r0, .bool r1, .int .u32 s0, .int .u32 s1, .bool t0, .bool t1], .bool ok]) (by simp [results, Try.results12, go_sem, *]) rfl (talkR_mk' (d' := ⟨rt, r0, r1, s0, s1, t0, t1⟩) HF2.out (by repeat (first | with_reducible exact hbY | with_reducible refine Below.setCell ?_ (by simp <;> omega) _)))
    · have HF : Hid (State.go (⟨5, f0, f1, a0, a1, k0, k1⟩ : State.C) (⟨0, sy, ac, fi, true, Seq.step sq (State.size nb fl), ak⟩ : State.W) = ((⟨7, f0, f1, a0, a1, k0, k1⟩ : State.C), true)) := rfl
      go_wp2_with fail
      exact bodyPost_ret (v := .tuple #[.agg #[.int .i64 (7), .bool f0, .bool f1, .int .u32 a0, .int .u32 a1, .bool k0, .bool k1], .bool true]) (by simp [results, Try.results12, go_sem, *]) rfl (talkR_mk' (d' := (⟨7, f0, f1, a0, a1, k0, k1⟩ : State.C)) HF.out (by repeat (first | with_reducible exact hbW | with_reducible exact hbW' | with_reducible refine Below.drewN ?_ _ | with_reducible refine Below.drew ?_ | with_reducible refine Below.setCell ?_ (by simp <;> omega) _ | with_reducible refine Below.alloc ?_ (by simp <;> omega) _)))
  · cases rs
    · obtain ⟨b, hb⟩ : ∃ b, State.begins (⟨0, sy, ac, fi, false, Seq.step sq (State.size nb fl), ak⟩ : State.W) = b := ⟨_, rfl⟩
      have HBG := fun w => begins_b 0 sp dp sq ak fl wi ur Ao no co Ab nb cb sy ac fi false (Seq.step sq (State.size nb fl)) ak b w hb
      cases b
      ·
        have HF : Hid (State.go (⟨6, f0, f1, a0, a1, k0, k1⟩ : State.C) (⟨0, sy, ac, fi, false, Seq.step sq (State.size nb fl), ak⟩ : State.W) = State.talk (⟨6, f0, f1, a0, a1, k0, k1⟩ : State.C) (⟨0, sy, ac, fi, false, Seq.step sq (State.size nb fl), ak⟩ : State.W)) := by show _ = _; unfold State.go; rw [hb]; rfl
        have HTK := fun w => talk_spec (⟨6, f0, f1, a0, a1, k0, k1⟩ : State.C) sp dp sq ak fl wi ur Ao no co Ab nb cb 0 sy ac fi false w hn (Or.inl rfl) _ rfl
        obtain ⟨r, hr⟩ : ∃ r, State.talk (⟨6, f0, f1, a0, a1, k0, k1⟩ : State.C) (⟨0, sy, ac, fi, false, Seq.step sq (State.size nb fl), ak⟩ : State.W) = r := ⟨_, rfl⟩
        rw [hr] at HTK
        obtain ⟨⟨rt, r0, r1, s0, s1, t0, t1⟩, ok⟩ := r
        have HF2 := Lib.hid (HF.out.trans hr)
        clear HF hr
        clear hb
        go_wp2_with fail
        refine (HBG _).mono ?_
        rintro e w3 ⟨rfl, hw3⟩
        have hb3 := Below.new_of2 hw3
        have B0' := Blk.later (B0.alloc _) hb3
        have B2' := Blk.later (B2.alloc _) hb3
        have B8 := Blk.later (Blk.new w2 60 [.int .i64 sp, .int .i64 dp, .int .u32 sq, .int .u32 ak, .int .i64 fl, .int .i64 wi, .int .i64 ur, .slice Ao no co, .slice Ab nb cb, .int .i64 0, .bool sy, .bool ac, .bool fi, .bool false] _ rfl) hb3
        have hbW' : Below w.heap.size w w3 := Below.trans (hbW.alloc (by omega) _) (hb3.mono (by simp <;> omega))
        have hs3 := hb3.size
        rw [World.heap_size_alloc] at hs3
        clear hw3 hb3 B0 B2 hbW b0 b1 b2 b3 b4 b5 b6 z0 z1 z2 z3 z4 z5 z6 y0 y1 y2 y3 y4 y5 y6 x0 x1 x2 x3 x4 x5 x6
        have hg0' : w.heap.size < w3.heap.size := by omega
        have hg2' : w.heap.size + 1 + 1 < w3.heap.size := by omega
        have hg8' : w2.heap.size < w3.heap.size := by omega
        obtain ⟨b0, b1, b2, b3, b4, b5, b6⟩ := cells7 B0'
        obtain ⟨y0, y1, y2, y3, y4, y5, y6⟩ := cells7 B2'
        obtain ⟨z0, z1, z2, z3, z4, z5, z6⟩ := frozen7 B0'
        obtain ⟨x0, x1, x2, x3, x4, x5, x6⟩ := frozen7 B2'
        obtain ⟨v0, v1, v2, v3, v4, v5, v6, v7, v8, v9, v10, v11, v12, v13⟩ := cells14 B8
        go_wp2_with fail
        refine (HTK _).mono ?_
        intro e w4 htk
        obtain ⟨rfl, hb3⟩ := htk.out
        have Y2 := Blk.later B2' hb3
        have hbY : Below w.heap.size w w4 := Below.trans hbW' (hb3.mono (by omega))
        clear B0' B2' B8 hbW' hb3 htk HTK HBG v0 v1 v2 v3 v4 v5 v6 v7 v8 v9 v10 v11 v12 v13 b0 b1 b2 b3 b4 b5 b6 z0 z1 z2 z3 z4 z5 z6 y0 y1 y2 y3 y4 y5 y6 x0 x1 x2 x3 x4 x5 x6
        obtain ⟨y0, y1, y2, y3, y4, y5, y6⟩ := cells7 Y2
        obtain ⟨x0, x1, x2, x3, x4, x5, x6⟩ := frozen7 Y2
        go_wp2_with fail
        exact bodyPost_ret (v := .tuple #[.agg #[.int .i64 rt, .bool r0, .bool r1, .int .u32 s0, .int .u32 s1, .bool t0, .bool t1], .bool ok]) (by simp [results, Try.results12, go_sem, *]) rfl (talkR_mk' (d' := ⟨rt, r0, r1, s0, s1, t0, t1⟩) HF2.out (by repeat (first | with_reducible exact hbY | with_reducible refine Below.setCell ?_ (by simp <;> omega) _)))
      ·
        have HF : Hid (State.go (⟨6, f0, f1, a0, a1, k0, k1⟩ : State.C) (⟨0, sy, ac, fi, false, Seq.step sq (State.size nb fl), ak⟩ : State.W) = ((⟨1, false, false, 0, 0, false, false⟩ : State.C), true)) := by show _ = _; unfold State.go; rw [hb]; rfl
        clear hb
        go_wp2_with fail
        refine (HBG _).mono ?_
        rintro e w3 ⟨rfl, hw3⟩
        have hb3 := Below.new_of2 hw3
        have B0' := Blk.later (B0.alloc _) hb3
        have B2' := Blk.later (B2.alloc _) hb3
        have B8 := Blk.later (Blk.new w2 60 [.int .i64 sp, .int .i64 dp, .int .u32 sq, .int .u32 ak, .int .i64 fl, .int .i64 wi, .int .i64 ur, .slice Ao no co, .slice Ab nb cb, .int .i64 0, .bool sy, .bool ac, .bool fi, .bool false] _ rfl) hb3
        have hbW' : Below w.heap.size w w3 := Below.trans (hbW.alloc (by omega) _) (hb3.mono (by simp <;> omega))
        have hs3 := hb3.size
        rw [World.heap_size_alloc] at hs3
        clear hw3 hb3 B0 B2 hbW b0 b1 b2 b3 b4 b5 b6 z0 z1 z2 z3 z4 z5 z6 y0 y1 y2 y3 y4 y5 y6 x0 x1 x2 x3 x4 x5 x6
        have hg0' : w.heap.size < w3.heap.size := by omega
        have hg2' : w.heap.size + 1 + 1 < w3.heap.size := by omega
        have hg8' : w2.heap.size < w3.heap.size := by omega
        obtain ⟨b0, b1, b2, b3, b4, b5, b6⟩ := cells7 B0'
        obtain ⟨y0, y1, y2, y3, y4, y5, y6⟩ := cells7 B2'
        obtain ⟨z0, z1, z2, z3, z4, z5, z6⟩ := frozen7 B0'
        obtain ⟨x0, x1, x2, x3, x4, x5, x6⟩ := frozen7 B2'
        obtain ⟨v0, v1, v2, v3, v4, v5, v6, v7, v8, v9, v10, v11, v12, v13⟩ := cells14 B8
        go_wp2_with fail
        exact bodyPost_ret (v := .tuple #[.agg #[.int .i64 1, .bool false, .bool false, .int .u32 0, .int .u32 0, .bool false, .bool false], .bool true]) (by simp [results, Try.results12, go_sem, *]) rfl (talkR_mk' (d' := (⟨1, false, false, 0, 0, false, false⟩ : State.C)) HF.out (by repeat (first | with_reducible exact hbW | with_reducible exact hbW' | with_reducible refine Below.drewN ?_ _ | with_reducible refine Below.drew ?_ | with_reducible refine Below.setCell ?_ (by simp <;> omega) _ | with_reducible refine Below.alloc ?_ (by simp <;> omega) _)))
    · have HF : Hid (State.go (⟨6, f0, f1, a0, a1, k0, k1⟩ : State.C) (⟨0, sy, ac, fi, true, Seq.step sq (State.size nb fl), ak⟩ : State.W) = ((⟨6, f0, f1, a0, a1, k0, k1⟩ : State.C), false)) := rfl
      go_wp2_with fail
      exact bodyPost_ret (v := .tuple #[.agg #[.int .i64 (6), .bool f0, .bool f1, .int .u32 a0, .int .u32 a1, .bool k0, .bool k1], .bool false]) (by simp [results, Try.results12, go_sem, *]) rfl (talkR_mk' (d' := (⟨6, f0, f1, a0, a1, k0, k1⟩ : State.C)) HF.out (by repeat (first | with_reducible exact hbW | with_reducible exact hbW' | with_reducible refine Below.drewN ?_ _ | with_reducible refine Below.drew ?_ | with_reducible refine Below.setCell ?_ (by simp <;> omega) _ | with_reducible refine Below.alloc ?_ (by simp <;> omega) _)))
  · cases rs
    · obtain ⟨b, hb⟩ : ∃ b, State.begins (⟨0, sy, ac, fi, false, Seq.step sq (State.size nb fl), ak⟩ : State.W) = b := ⟨_, rfl⟩
      have HBG := fun w => begins_b 0 sp dp sq ak fl wi ur Ao no co Ab nb cb sy ac fi false (Seq.step sq (State.size nb fl)) ak b w hb
      cases b
      ·
        have HF : Hid (State.go (⟨7, f0, f1, a0, a1, k0, k1⟩ : State.C) (⟨0, sy, ac, fi, false, Seq.step sq (State.size nb fl), ak⟩ : State.W) = ((⟨7, f0, f1, a0, a1, k0, k1⟩ : State.C), false)) := by show _ = _; unfold State.go; rw [hb]; rfl
        clear hb
        go_wp2_with fail
        refine (HBG _).mono ?_
        rintro e w3 ⟨rfl, hw3⟩
        have hb3 := Below.new_of2 hw3
        have B0' := Blk.later (B0.alloc _) hb3
        have B2' := Blk.later (B2.alloc _) hb3
        have B8 := Blk.later (Blk.new w2 60 [.int .i64 sp, .int .i64 dp, .int .u32 sq, .int .u32 ak, .int .i64 fl, .int .i64 wi, .int .i64 ur, .slice Ao no co, .slice Ab nb cb, .int .i64 0, .bool sy, .bool ac, .bool fi, .bool false] _ rfl) hb3
        have hbW' : Below w.heap.size w w3 := Below.trans (hbW.alloc (by omega) _) (hb3.mono (by simp <;> omega))
        have hs3 := hb3.size
        rw [World.heap_size_alloc] at hs3
        clear hw3 hb3 B0 B2 hbW b0 b1 b2 b3 b4 b5 b6 z0 z1 z2 z3 z4 z5 z6 y0 y1 y2 y3 y4 y5 y6 x0 x1 x2 x3 x4 x5 x6
        have hg0' : w.heap.size < w3.heap.size := by omega
        have hg2' : w.heap.size + 1 + 1 < w3.heap.size := by omega
        have hg8' : w2.heap.size < w3.heap.size := by omega
        obtain ⟨b0, b1, b2, b3, b4, b5, b6⟩ := cells7 B0'
        obtain ⟨y0, y1, y2, y3, y4, y5, y6⟩ := cells7 B2'
        obtain ⟨z0, z1, z2, z3, z4, z5, z6⟩ := frozen7 B0'
        obtain ⟨x0, x1, x2, x3, x4, x5, x6⟩ := frozen7 B2'
        obtain ⟨v0, v1, v2, v3, v4, v5, v6, v7, v8, v9, v10, v11, v12, v13⟩ := cells14 B8
        go_wp2_with fail
        exact bodyPost_ret (v := .tuple #[.agg #[.int .i64 (7), .bool f0, .bool f1, .int .u32 a0, .int .u32 a1, .bool k0, .bool k1], .bool false]) (by simp [results, Try.results12, go_sem, *]) rfl (talkR_mk' (d' := (⟨7, f0, f1, a0, a1, k0, k1⟩ : State.C)) HF.out (by repeat (first | with_reducible exact hbW | with_reducible exact hbW' | with_reducible refine Below.drewN ?_ _ | with_reducible refine Below.drew ?_ | with_reducible refine Below.setCell ?_ (by simp <;> omega) _ | with_reducible refine Below.alloc ?_ (by simp <;> omega) _)))
      ·
        have HF : Hid (State.go (⟨7, f0, f1, a0, a1, k0, k1⟩ : State.C) (⟨0, sy, ac, fi, false, Seq.step sq (State.size nb fl), ak⟩ : State.W) = ((⟨1, false, false, 0, 0, false, false⟩ : State.C), true)) := by show _ = _; unfold State.go; rw [hb]; rfl
        clear hb
        go_wp2_with fail
        refine (HBG _).mono ?_
        rintro e w3 ⟨rfl, hw3⟩
        have hb3 := Below.new_of2 hw3
        have B0' := Blk.later (B0.alloc _) hb3
        have B2' := Blk.later (B2.alloc _) hb3
        have B8 := Blk.later (Blk.new w2 60 [.int .i64 sp, .int .i64 dp, .int .u32 sq, .int .u32 ak, .int .i64 fl, .int .i64 wi, .int .i64 ur, .slice Ao no co, .slice Ab nb cb, .int .i64 0, .bool sy, .bool ac, .bool fi, .bool false] _ rfl) hb3
        have hbW' : Below w.heap.size w w3 := Below.trans (hbW.alloc (by omega) _) (hb3.mono (by simp <;> omega))
        have hs3 := hb3.size
        rw [World.heap_size_alloc] at hs3
        clear hw3 hb3 B0 B2 hbW b0 b1 b2 b3 b4 b5 b6 z0 z1 z2 z3 z4 z5 z6 y0 y1 y2 y3 y4 y5 y6 x0 x1 x2 x3 x4 x5 x6
        have hg0' : w.heap.size < w3.heap.size := by omega
        have hg2' : w.heap.size + 1 + 1 < w3.heap.size := by omega
        have hg8' : w2.heap.size < w3.heap.size := by omega
        obtain ⟨b0, b1, b2, b3, b4, b5, b6⟩ := cells7 B0'
        obtain ⟨y0, y1, y2, y3, y4, y5, y6⟩ := cells7 B2'
        obtain ⟨z0, z1, z2, z3, z4, z5, z6⟩ := frozen7 B0'
        obtain ⟨x0, x1, x2, x3, x4, x5, x6⟩ := frozen7 B2'
        obtain ⟨v0, v1, v2, v3, v4, v5, v6, v7, v8, v9, v10, v11, v12, v13⟩ := cells14 B8
        go_wp2_with fail
        exact bodyPost_ret (v := .tuple #[.agg #[.int .i64 1, .bool false, .bool false, .int .u32 0, .int .u32 0, .bool false, .bool false], .bool true]) (by simp [results, Try.results12, go_sem, *]) rfl (talkR_mk' (d' := (⟨1, false, false, 0, 0, false, false⟩ : State.C)) HF.out (by repeat (first | with_reducible exact hbW | with_reducible exact hbW' | with_reducible refine Below.drewN ?_ _ | with_reducible refine Below.drew ?_ | with_reducible refine Below.setCell ?_ (by simp <;> omega) _ | with_reducible refine Below.alloc ?_ (by simp <;> omega) _)))
    · have HF : Hid (State.go (⟨7, f0, f1, a0, a1, k0, k1⟩ : State.C) (⟨0, sy, ac, fi, true, Seq.step sq (State.size nb fl), ak⟩ : State.W) = ((⟨7, f0, f1, a0, a1, k0, k1⟩ : State.C), false)) := rfl
      go_wp2_with fail
      exact bodyPost_ret (v := .tuple #[.agg #[.int .i64 (7), .bool f0, .bool f1, .int .u32 a0, .int .u32 a1, .bool k0, .bool k1], .bool false]) (by simp [results, Try.results12, go_sem, *]) rfl (talkR_mk' (d' := (⟨7, f0, f1, a0, a1, k0, k1⟩ : State.C)) HF.out (by repeat (first | with_reducible exact hbW | with_reducible exact hbW' | with_reducible refine Below.drewN ?_ _ | with_reducible refine Below.drew ?_ | with_reducible refine Below.setCell ?_ (by simp <;> omega) _ | with_reducible refine Below.alloc ?_ (by simp <;> omega) _)))
end Go.Proofs.Ytliibpajgdncpaa
