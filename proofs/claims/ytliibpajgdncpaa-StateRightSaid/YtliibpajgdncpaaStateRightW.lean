/- The walk of the law StateRight. -/
import Derived.Test.YtliibpajgdncpaaSRefJ
import Derived.Test.YtliibpajgdncpaaStateAwake
import Derived.Test.YtliibpajgdncpaaTcpShort
import Derived.Test.YtliibpajgdncpaaStateEq
import Derived.Test.YtliibpajgdncpaaConnOpen
import Derived.Deep.RegionHeld3
namespace Go.Proofs.Ytliibpajgdncpaa
open Go.RowKit
set_option linter.unusedVariables false
attribute [local go_sem] eq_bool2 eq_u32x2
set_option maxRecDepth 8000 in
set_option maxHeartbeats 4000000 in
theorem sr_walk (c : State.C) (sd tcp : Int) (t : Tcp.T) (w : World) (hc : c.ok) (ht : t.ok w) (hs0 : -9223372036854775808 ≤ tcp) (hs1 : tcp ≤ 9223372036854775807) :
    Calls Try.prog 3 #[.agg #[.int .i64 c.st, .bool c.f0, .bool c.f1, .int .u32 c.a0, .int .u32 c.a1, .bool c.k0, .bool c.k1], .int .i64 sd, .agg #[.int .i64 t.sp, .int .i64 t.dp, .int .u32 t.sq, .int .u32 t.ak, .int .i64 t.fl, .int .i64 t.wi, .int .i64 t.ur, .slice t.Ao t.no t.co, .slice t.Ab t.nb t.cb], .int .i64 tcp] w fun e w' => e = .returned (.bool true) ∧ Below w.heap.size w w' := by
  obtain ⟨W, hW⟩ : ∃ W, W = (w.alloc (.cells #[.int .i64 c.st, .bool c.f0, .bool c.f1, .int .u32 c.a0, .int .u32 c.a1, .bool c.k0, .bool c.k1] 26)).alloc (.cells #[.int .i64 t.sp, .int .i64 t.dp, .int .u32 t.sq, .int .u32 t.ak, .int .i64 t.fl, .int .i64 t.wi, .int .i64 t.ur, .slice t.Ao t.no t.co, .slice t.Ab t.nb t.cb] 30) := ⟨_, rfl⟩
  have hbW : Below w.heap.size w W := (by rw [hW]; exact ((Below.refl _ _).alloc (Nat.le_refl _) _).alloc (by simp) _)
  have B0 : Blk W w.heap.size 26 [.int .i64 c.st, .bool c.f0, .bool c.f1, .int .u32 c.a0, .int .u32 c.a1, .bool c.k0, .bool c.k1] := (by rw [hW]; exact (Blk.new _ _ [.int .i64 c.st, .bool c.f0, .bool c.f1, .int .u32 c.a0, .int .u32 c.a1, .bool c.k0, .bool c.k1] _ rfl).alloc _)
  have B1 : Blk W (w.heap.size + 1) 30 [.int .i64 t.sp, .int .i64 t.dp, .int .u32 t.sq, .int .u32 t.ak, .int .i64 t.fl, .int .i64 t.wi, .int .i64 t.ur, .slice t.Ao t.no t.co, .slice t.Ab t.nb t.cb] := (by rw [hW]; exact (Blk.new _ _ [.int .i64 t.sp, .int .i64 t.dp, .int .u32 t.sq, .int .u32 t.ak, .int .i64 t.fl, .int .i64 t.wi, .int .i64 t.ur, .slice t.Ao t.no t.co, .slice t.Ab t.nb t.cb] _ (by simp)))
  have T0 := ht.below hbW
  clear ht
  go_enter Try.func3, Try.ntmps3
  go_wp2_with fail
  rw [← hW]
  clear hW
  refine (sawake W).mono ?_
  rintro e w1 ⟨rfl, hb1⟩
  have B0a := B0.later hb1
  have B1a := B1.later hb1
  have hbA := bel_then hbW hb1
  have Ta := T0.below hb1
  clear B0 B1 T0 hb1 hbW
  obtain ⟨b0, b1, b2, b3, b4, b5, b6, b7, b8⟩ := cells9 B1a
  go_wp2_with fail
  refine (short_spec t _ Ta).mono ?_
  rintro e w2 ⟨b, rfl, hsh, hb1⟩
  have HSH := Lib.hid hsh
  have B0 := B0a.later hb1
  have B1 := B1a.later hb1
  have hbW := bel_then hbA hb1
  have T0 := Ta.below hb1
  clear B0a B1a Ta hb1 hbA b0 b1 b2 b3 b4 b5 b6 b7 b8 hsh
  cases b
  · go_wp2_with fail
    go_ret
    exact ⟨rfl, hbW⟩
  have hnt := (HSH.out rfl).1
  clear HSH
  obtain ⟨b0, b1, b2, b3, b4, b5, b6, b7, b8⟩ := cells9 B1
  obtain ⟨d0, d1, d2, d3, d4, d5, d6⟩ := cells7 B0
  have h1 := fun w => step_spec c sd t.sp t.dp t.sq t.ak t.fl t.wi t.ur t.Ao t.no t.co t.Ab t.nb t.cb w (by omega)
  have h2 := fun w => rstep_spec c sd t.sp t.dp t.sq t.ak t.fl t.wi t.ur t.Ao t.no t.co t.Ab t.nb t.cb w (by omega) T0.sq T0.ak hc.a0 hc.a1
  generalize State.step c (State.said sd t.sq t.ak t.fl t.nb) = r at h1 h2
  obtain ⟨d, ok⟩ := r
  simp only at h1 h2
  go_wp2_with fail
  refine (h1 _).mono ?_
  intro e w4 ht4
  obtain ⟨rfl, hb1⟩ := ht4.out
  have B0a := B0.later hb1
  have B1a := B1.later hb1
  have hbA := bel_then hbW hb1
  clear B0 B1 T0 hb1 hbW ht4 h1 b0 b1 b2 b3 b4 b5 b6 b7 b8 d0 d1 d2 d3 d4 d5 d6
  obtain ⟨b0, b1, b2, b3, b4, b5, b6, b7, b8⟩ := cells9 B1a
  obtain ⟨d0, d1, d2, d3, d4, d5, d6⟩ := cells7 B0a
  have hg0 := B0a.lt
  have hg1 := B1a.lt
  have BD := Lib.hid (Blk.new w4 26 [.int .i64 d.st, .bool d.f0, .bool d.f1, .int .u32 d.a0, .int .u32 d.a1, .bool d.k0, .bool d.k1] _ rfl)
  go_wp2_with fail
  refine (h2 _).mono ?_
  intro e w6 ht4
  obtain ⟨rfl, hb1⟩ := ht4.out
  have B0 := (B0a.alloc _).later hb1
  have BDa := BD.out.later hb1
  have hbW := (hbA.alloc hbA.size (.cells #[.int .i64 d.st, .bool d.f0, .bool d.f1, .int .u32 d.a0, .int .u32 d.a1, .bool d.k0, .bool d.k1] 26)).trans (hb1.mono (by have := hbA.size; simp; omega))
  clear B0a B1a hb1 hbA ht4 h2 b0 b1 b2 b3 b4 b5 b6 b7 b8 d0 d1 d2 d3 d4 d5 d6 hg0 hg1 BD
  have BE := Lib.hid (Blk.new w6 26 [.int .i64 d.st, .bool d.f0, .bool d.f1, .int .u32 d.a0, .int .u32 d.a1, .bool d.k0, .bool d.k1] _ rfl)
  have hg0 := B0.lt
  have hg4 := BDa.lt
  go_upto_region 7 with fail
  obtain ⟨wr, hwr⟩ : ∃ wr, wr = w6.alloc (.cells #[.int .i64 d.st, .bool d.f0, .bool d.f1, .int .u32 d.a0, .int .u32 d.a1, .bool d.k0, .bool d.k1] 26) := ⟨_, rfl⟩
  rw [← hwr]
  have C0 : Blk wr w.heap.size 26 [.int .i64 c.st, .bool c.f0, .bool c.f1, .int .u32 c.a0, .int .u32 c.a1, .bool c.k0, .bool c.k1] := by rw [hwr]; exact B0.alloc _
  have C1 : Blk wr w4.heap.size 26 [.int .i64 d.st, .bool d.f0, .bool d.f1, .int .u32 d.a0, .int .u32 d.a1, .bool d.k0, .bool d.k1] := by rw [hwr]; exact BDa.alloc _
  have C2 : Blk wr w6.heap.size 26 [.int .i64 d.st, .bool d.f0, .bool d.f1, .int .u32 d.a0, .int .u32 d.a1, .bool d.k0, .bool d.k1] := by rw [hwr]; exact BE.out
  have hbX : Below w.heap.size w wr := by rw [hwr]; exact hbW.alloc hbW.size _
  clear hwr B0 BDa BE hbW hg0 hg4
  obtain ⟨q, hq⟩ : ∃ q, State.rightB c = q := ⟨_, rfl⟩
  have HR1 : Hid (∀ w, Calls Try.prog 14 #[.agg #[.int .i64 c.st, .bool c.f0, .bool c.f1, .int .u32 c.a0, .int .u32 c.a1, .bool c.k0, .bool c.k1]] w fun e w' => e = .returned (.bool q) ∧ Below w.heap.size w w') := Lib.hid fun w => by rw [← hq]; exact sright_spec c w
  have HR2 : Hid (∀ w, Calls Try.prog 15 #[.agg #[.int .i64 c.st, .bool c.f0, .bool c.f1, .int .u32 c.a0, .int .u32 c.a1, .bool c.k0, .bool c.k1]] w fun e w' => e = .returned (.bool q) ∧ Below w.heap.size w w') := Lib.hid fun w => by rw [← hq]; exact rright_spec c w ⟨hc.a0.1, hc.a1.1⟩
  obtain ⟨m, hm⟩ : ∃ m, State.lasts c.st tcp = m := ⟨_, rfl⟩
  have HL1 : Hid (∀ w, Calls Try.prog 16 #[.int .i64 c.st, .int .i64 tcp] w fun e w' => e = .returned (.int .i64 m) ∧ w = w') := Lib.hid fun w => by rw [← hm]; exact lasts_spec c.st tcp w hs0 hs1
  have HL2 : Hid (∀ w, Calls Try.prog 17 #[.int .i64 c.st, .int .i64 tcp] w fun e w' => e = .returned (.int .i64 m) ∧ w = w') := Lib.hid fun w => by rw [← hm]; exact rlasts_spec c.st tcp w hs0 hs1
  have KF : Hid (∀ w' : World, Below wr.heap.size wr w' → Below wr.heap.size wr w' ∧ w'.cell? ⟨w.heap.size, 0, none⟩ = some (.int .i64 c.st) ∧ w'.cell? ⟨w.heap.size, 1, none⟩ = some (.bool c.f0) ∧ w'.cell? ⟨w.heap.size, 2, none⟩ = some (.bool c.f1) ∧ w'.cell? ⟨w.heap.size, 3, none⟩ = some (.int .u32 c.a0) ∧ w'.cell? ⟨w.heap.size, 4, none⟩ = some (.int .u32 c.a1) ∧ w'.cell? ⟨w.heap.size, 5, none⟩ = some (.bool c.k0) ∧ w'.cell? ⟨w.heap.size, 6, none⟩ = some (.bool c.k1) ∧ w'.cell? ⟨w4.heap.size, 0, none⟩ = some (.int .i64 d.st) ∧ w'.cell? ⟨w4.heap.size, 1, none⟩ = some (.bool d.f0) ∧ w'.cell? ⟨w4.heap.size, 2, none⟩ = some (.bool d.f1) ∧ w'.cell? ⟨w4.heap.size, 3, none⟩ = some (.int .u32 d.a0) ∧ w'.cell? ⟨w4.heap.size, 4, none⟩ = some (.int .u32 d.a1) ∧ w'.cell? ⟨w4.heap.size, 5, none⟩ = some (.bool d.k0) ∧ w'.cell? ⟨w4.heap.size, 6, none⟩ = some (.bool d.k1) ∧ w'.cell? ⟨w6.heap.size, 0, none⟩ = some (.int .i64 d.st) ∧ w'.cell? ⟨w6.heap.size, 1, none⟩ = some (.bool d.f0) ∧ w'.cell? ⟨w6.heap.size, 2, none⟩ = some (.bool d.f1) ∧ w'.cell? ⟨w6.heap.size, 3, none⟩ = some (.int .u32 d.a0) ∧ w'.cell? ⟨w6.heap.size, 4, none⟩ = some (.int .u32 d.a1) ∧ w'.cell? ⟨w6.heap.size, 5, none⟩ = some (.bool d.k0) ∧ w'.cell? ⟨w6.heap.size, 6, none⟩ = some (.bool d.k1)) := Lib.hid fun w' hb => by
    obtain ⟨a0, a1, a2, a3, a4, a5, a6⟩ := cells7 (C0.later hb)
    obtain ⟨b0, b1, b2, b3, b4, b5, b6⟩ := cells7 (C1.later hb)
    obtain ⟨c0, c1, c2, c3, c4, c5, c6⟩ := cells7 (C2.later hb)
    exact ⟨hb, a0, a1, a2, a3, a4, a5, a6, b0, b1, b2, b3, b4, b5, b6, c0, c1, c2, c3, c4, c5, c6⟩
  clear hq hm C0 C1 C2 hc
  have HBX := Lib.hid hbX
  clear hbX hnt
  go_region_held3 (fun w' => Below wr.heap.size wr w' ∧ w'.cell? ⟨w.heap.size, 0, none⟩ = some (.int .i64 c.st) ∧ w'.cell? ⟨w.heap.size, 1, none⟩ = some (.bool c.f0) ∧ w'.cell? ⟨w.heap.size, 2, none⟩ = some (.bool c.f1) ∧ w'.cell? ⟨w.heap.size, 3, none⟩ = some (.int .u32 c.a0) ∧ w'.cell? ⟨w.heap.size, 4, none⟩ = some (.int .u32 c.a1) ∧ w'.cell? ⟨w.heap.size, 5, none⟩ = some (.bool c.k0) ∧ w'.cell? ⟨w.heap.size, 6, none⟩ = some (.bool c.k1) ∧ w'.cell? ⟨w4.heap.size, 0, none⟩ = some (.int .i64 d.st) ∧ w'.cell? ⟨w4.heap.size, 1, none⟩ = some (.bool d.f0) ∧ w'.cell? ⟨w4.heap.size, 2, none⟩ = some (.bool d.f1) ∧ w'.cell? ⟨w4.heap.size, 3, none⟩ = some (.int .u32 d.a0) ∧ w'.cell? ⟨w4.heap.size, 4, none⟩ = some (.int .u32 d.a1) ∧ w'.cell? ⟨w4.heap.size, 5, none⟩ = some (.bool d.k0) ∧ w'.cell? ⟨w4.heap.size, 6, none⟩ = some (.bool d.k1) ∧ w'.cell? ⟨w6.heap.size, 0, none⟩ = some (.int .i64 d.st) ∧ w'.cell? ⟨w6.heap.size, 1, none⟩ = some (.bool d.f0) ∧ w'.cell? ⟨w6.heap.size, 2, none⟩ = some (.bool d.f1) ∧ w'.cell? ⟨w6.heap.size, 3, none⟩ = some (.int .u32 d.a0) ∧ w'.cell? ⟨w6.heap.size, 4, none⟩ = some (.int .u32 d.a1) ∧ w'.cell? ⟨w6.heap.size, 5, none⟩ = some (.bool d.k0) ∧ w'.cell? ⟨w6.heap.size, 6, none⟩ = some (.bool d.k1)) (first | exact KF.out _ (hbn) | exact KF.out _ (Below.drew (hbn)) | exact KF.out _ (Below.drewN (hbn) _) | exact KF.out _ (Below.drewN (Below.drew (hbn)) _) | exact KF.out _ (Below.drew (Below.drewN (hbn) _)) | exact KF.out _ (Below.refl wr.heap.size wr) | exact KF.out _ (Below.drew (Below.refl wr.heap.size wr)) | exact KF.out _ (Below.drewN (Below.refl wr.heap.size wr) _) | exact KF.out _ (Below.drewN (Below.drew (Below.refl wr.heap.size wr)) _) | exact KF.out _ (Below.drew (Below.drewN (Below.refl wr.heap.size wr) _))) (first | (go_at_call 14; refine (HR1.out _).mono ?_; rintro e w9 ⟨rfl, hb9⟩; have hbn := bel_then (by first | exact hbn | exact (Below.drew (hbn)) | exact (Below.drewN (hbn) _) | exact (Below.drewN (Below.drew (hbn)) _) | exact (Below.drew (Below.drewN (hbn) _)) | exact Below.refl wr.heap.size wr | exact (Below.drew (Below.refl wr.heap.size wr)) | exact (Below.drewN (Below.refl wr.heap.size wr) _) | exact (Below.drewN (Below.drew (Below.refl wr.heap.size wr)) _) | exact (Below.drew (Below.drewN (Below.refl wr.heap.size wr) _))) hb9) | (go_at_call 15; refine (HR2.out _).mono ?_; rintro e w9 ⟨rfl, hb9⟩; have hbn := bel_then (by first | exact hbn | exact (Below.drew (hbn)) | exact (Below.drewN (hbn) _) | exact (Below.drewN (Below.drew (hbn)) _) | exact (Below.drew (Below.drewN (hbn) _)) | exact Below.refl wr.heap.size wr | exact (Below.drew (Below.refl wr.heap.size wr)) | exact (Below.drewN (Below.refl wr.heap.size wr) _) | exact (Below.drewN (Below.drew (Below.refl wr.heap.size wr)) _) | exact (Below.drew (Below.drewN (Below.refl wr.heap.size wr) _))) hb9) | (go_at_call 16; refine (HL1.out _).mono ?_; rintro e w9 ⟨rfl, rfl⟩) | (go_at_call 17; refine (HL2.out _).mono ?_; rintro e w9 ⟨rfl, rfl⟩))
  all_goals
    go_wp2
    go_ret
    exact ⟨rfl, bel_then HBX.out (by first | exact hbn | exact (Below.drew (hbn)) | exact (Below.drewN (hbn) _) | exact (Below.drewN (Below.drew (hbn)) _) | exact (Below.drew (Below.drewN (hbn) _)) | exact Below.refl wr.heap.size wr | exact (Below.drew (Below.refl wr.heap.size wr)) | exact (Below.drewN (Below.refl wr.heap.size wr) _) | exact (Below.drewN (Below.drew (Below.refl wr.heap.size wr)) _) | exact (Below.drew (Below.drewN (Below.refl wr.heap.size wr) _)))⟩
end Go.Proofs.Ytliibpajgdncpaa
