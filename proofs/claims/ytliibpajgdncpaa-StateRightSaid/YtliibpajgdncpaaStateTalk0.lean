/- The walk of state.talk where it goes on (printed by tools/gen_talk.py). -/
import Derived.Test.YtliibpajgdncpaaStateTalkH
namespace Go.Proofs.Ytliibpajgdncpaa
open Go.RowKit
set_option linter.unusedVariables false
set_option maxHeartbeats 4000000 in
theorem talk_0no (st a0 a1 : Int) (f1 k0 k1 : Bool) (sp dp sq ak fl wi ur : Int) (Ao : Option Addr) (no co : Nat) (Ab : Option Addr) (nb cb : Nat) (rs : Bool) (w : World) (hn : nb ≤ 4294967295) :
    Calls Try.prog 27 #[.agg #[.int .i64 st, .bool false, .bool f1, .int .u32 a0, .int .u32 a1, .bool k0, .bool k1], .agg #[.int .i64 sp, .int .i64 dp, .int .u32 sq, .int .u32 ak, .int .i64 fl, .int .i64 wi, .int .i64 ur, .slice Ao no co, .slice Ab nb cb, .int .i64 0, .bool false, .bool true, .bool false, .bool rs]] w
      fun e w' => TalkR (State.talk (⟨st, false, f1, a0, a1, k0, k1⟩ : State.C) (⟨0, false, true, false, rs, Seq.step sq (State.size nb fl), ak⟩ : State.W)).1 true w e w' := by
  obtain ⟨W, hW⟩ : ∃ W, W = ((w.alloc (.cells #[.int .i64 st, .bool false, .bool f1, .int .u32 a0, .int .u32 a1, .bool k0, .bool k1] 26)).alloc (.cells #[.int .i64 sp, .int .i64 dp, .int .u32 sq, .int .u32 ak, .int .i64 fl, .int .i64 wi, .int .i64 ur, .slice Ao no co, .slice Ab nb cb, .int .i64 0, .bool false, .bool true, .bool false, .bool rs] 60)).alloc (.cells #[.int .i64 0, .bool false, .bool false, .int .u32 0, .int .u32 0, .bool false, .bool false] 26) := ⟨_, rfl⟩
  have hbW : Below w.heap.size w W := by rw [hW]; exact (((Below.refl _ _).alloc (Nat.le_refl _) _).alloc (by simp) _).alloc (by simp; omega) _
  have B0 : Blk W w.heap.size 26 [.int .i64 st, .bool false, .bool f1, .int .u32 a0, .int .u32 a1, .bool k0, .bool k1] := by rw [hW]; exact ((Blk.new _ _ [.int .i64 st, .bool false, .bool f1, .int .u32 a0, .int .u32 a1, .bool k0, .bool k1] _ rfl).alloc _).alloc _
  have B1 : Blk W (w.heap.size + 1) 60 [.int .i64 sp, .int .i64 dp, .int .u32 sq, .int .u32 ak, .int .i64 fl, .int .i64 wi, .int .i64 ur, .slice Ao no co, .slice Ab nb cb, .int .i64 0, .bool false, .bool true, .bool false, .bool rs] := by rw [hW]; exact (Blk.new _ _ [.int .i64 sp, .int .i64 dp, .int .u32 sq, .int .u32 ak, .int .i64 fl, .int .i64 wi, .int .i64 ur, .slice Ao no co, .slice Ab nb cb, .int .i64 0, .bool false, .bool true, .bool false, .bool rs] _ (by simp)).alloc _
  have B2 : Blk W (w.heap.size + 1 + 1) 26 [.int .i64 0, .bool false, .bool false, .int .u32 0, .int .u32 0, .bool false, .bool false] := by rw [hW]; exact (Blk.new _ _ [.int .i64 0, .bool false, .bool false, .int .u32 0, .int .u32 0, .bool false, .bool false] _ (by simp))
  have hWs : w.heap.size + 3 ≤ W.heap.size := by rw [hW]; simp
  have hg0 : w.heap.size < W.heap.size := by omega
  have hg1 : w.heap.size + 1 < W.heap.size := by omega
  obtain ⟨k0', k1', k2', k3', k4', k5', k6', k7', k8', k9'⟩ := cells10 B1
  obtain ⟨b0, b1, b2, b3, b4, b5, b6⟩ := cells7 B0
  obtain ⟨z0, z1, z2, z3, z4, z5, z6⟩ := frozen7 B0
  go_enter Try.func27, Try.ntmps27
  go_upto_if 26 with (fail)
  rw [← hW]
  clear hW
  go_cut [] (fun wx => Below w.heap.size w wx ∧ w.heap.size + 3 ≤ wx.heap.size ∧ Blk wx w.heap.size 26 [.int .i64 st, .bool false, .bool f1, .int .u32 a0, .int .u32 a1, .bool k0, .bool k1] ∧ Blk wx (w.heap.size + 1) 60 [.int .i64 sp, .int .i64 dp, .int .u32 sq, .int .u32 ak, .int .i64 fl, .int .i64 wi, .int .i64 ur, .slice Ao no co, .slice Ab nb cb, .int .i64 0, .bool false, .bool true, .bool false, .bool rs] ∧ Blk wx (w.heap.size + 1 + 1) 26 [.int .i64 0, .bool false, .bool false, .int .u32 0, .int .u32 0, .bool false, .bool false])
  case first =>
    go_wp2_with fail
    go_meet
    exact ⟨hbW, hWs, B0, B1, B2⟩
  case rest =>
    obtain ⟨hbx, hxs, X0, X1, X2⟩ := hcut
    clear B0 B1 B2 hbW hWs hg0 hg1 k0' k1' k2' k3' k4' k5' k6' k7' k8' k9' b0 b1 b2 b3 b4 b5 b6 z0 z1 z2 z3 z4 z5 z6
    have hg0 : w.heap.size < wc.heap.size := by omega
    have hg1 : w.heap.size + 1 < wc.heap.size := by omega
    have hg2 : w.heap.size + 1 + 1 < wc.heap.size := by omega
    obtain ⟨k0', k1', k2', k3', k4', k5', k6', k7', k8', k9'⟩ := cells10 X1
    obtain ⟨b0, b1, b2, b3, b4, b5, b6⟩ := cells7 X0
    obtain ⟨z0, z1, z2, z3, z4, z5, z6⟩ := frozen7 X0
    obtain ⟨y0, y1, y2, y3, y4, y5, y6⟩ := cells7 X2
    obtain ⟨x0, x1, x2, x3, x4, x5, x6⟩ := frozen7 X2
    clear k0' k1' k2' k4' k5' k6' k7' k8' 
    cases f1
    · cases hm : (State.acks (⟨st, false, false, a0, a1, k0, k1⟩ : State.C) == 2)
      ·
        have HF : Hid ((State.talk (⟨st, false, false, a0, a1, k0, k1⟩ : State.C) (⟨0, false, true, false, rs, Seq.step sq (State.size nb fl), ak⟩ : State.W)).1 = (⟨3 + State.fins (⟨st, false, false, a0, a1, k0, k1⟩ : State.C), false, false, a0, a1, k0, k1⟩ : State.C)) := by show _ = _; have hm2 := ne_of_beq hm; unfold State.talk State.endNow State.ackNow State.finOf; simp [hm2]
        have hfb := fins_bd (⟨st, false, false, a0, a1, k0, k1⟩ : State.C)
        go_wp2_with fail
        go_quiet ((go_at_call 21; exact dist_q _ _ _ _))
        go_wp2_with fail
        refine (ended_spec (⟨st, false, false, a0, a1, k0, k1⟩ : State.C) _).mono ?_
        rintro e w2 ⟨rfl, hb2⟩
        have Y0 : Blk w2 w.heap.size 26 [.int .i64 st, .bool false, .bool false, .int .u32 a0, .int .u32 a1, .bool k0, .bool k1] := Blk.later (by repeat (first | with_reducible exact X0 | with_reducible refine Blk.drewN ?_ _ | with_reducible refine Blk.drew ?_ | with_reducible refine Blk.puts (xs := [.int .i64 st, .bool false, .bool false, .int .u32 a0, .int .u32 a1, .bool k0, .bool k1]) ?_ rfl)) hb2
        have Y2 : Blk w2 (w.heap.size + 1 + 1) 26 [.int .i64 0, .bool false, .bool false, .int .u32 0, .int .u32 0, .bool false, .bool false] := Blk.later (by repeat (first | with_reducible exact X2 | with_reducible refine Blk.drewN ?_ _ | with_reducible refine Blk.drew ?_ | with_reducible refine Blk.other ?_ (by simp <;> omega) _)) hb2
        have hbY : Below w.heap.size w w2 := Below.trans (by repeat (first | with_reducible exact hbx | with_reducible refine Below.drewN ?_ _ | with_reducible refine Below.drew ?_ | with_reducible refine Below.setCell ?_ (by simp) _)) (hb2.mono (by simp; omega))
        clear hb2 hbx X0 X1 X2 b0 b1 b2 b3 b4 b5 b6 z0 z1 z2 z3 z4 z5 z6 y0 y1 y2 y3 y4 y5 y6 x0 x1 x2 x3 x4 x5 x6
        obtain ⟨b0, b1, b2, b3, b4, b5, b6⟩ := cells7 Y0
        obtain ⟨z0, z1, z2, z3, z4, z5, z6⟩ := frozen7 Y0
        obtain ⟨y0, y1, y2, y3, y4, y5, y6⟩ := cells7 Y2
        obtain ⟨x0, x1, x2, x3, x4, x5, x6⟩ := frozen7 Y2
        go_wp2_with fail
        exact bodyPost_ret (v := .tuple #[.agg #[.int .i64 (3 + State.fins (⟨st, false, false, a0, a1, k0, k1⟩ : State.C)), .bool false, .bool false, .int .u32 a0, .int .u32 a1, .bool k0, .bool k1], .bool true]) (by simp [results, Try.results27, go_sem, y0, y1, y2, y3, y4, y5, y6]) rfl (talkR_mk HF.out (by repeat (first | with_reducible exact hbY | with_reducible refine Below.setCell ?_ (by simp; try omega) _)))
      ·
        have HF : Hid ((State.talk (⟨st, false, false, a0, a1, k0, k1⟩ : State.C) (⟨0, false, true, false, rs, Seq.step sq (State.size nb fl), ak⟩ : State.W)).1 = (⟨6, false, false, a0, a1, k0, k1⟩ : State.C)) := by show _ = _; have hm2 := eq_of_beq' hm; unfold State.talk State.endNow State.ackNow State.finOf; simp [hm2]
        have hfb := fins_bd (⟨st, false, false, a0, a1, k0, k1⟩ : State.C)
        go_wp2_with fail
        go_quiet ((go_at_call 21; exact dist_q _ _ _ _))
        go_wp2_with fail
        refine (ended_spec (⟨st, false, false, a0, a1, k0, k1⟩ : State.C) _).mono ?_
        rintro e w2 ⟨rfl, hb2⟩
        have Y0 : Blk w2 w.heap.size 26 [.int .i64 st, .bool false, .bool false, .int .u32 a0, .int .u32 a1, .bool k0, .bool k1] := Blk.later (by repeat (first | with_reducible exact X0 | with_reducible refine Blk.drewN ?_ _ | with_reducible refine Blk.drew ?_ | with_reducible refine Blk.puts (xs := [.int .i64 st, .bool false, .bool false, .int .u32 a0, .int .u32 a1, .bool k0, .bool k1]) ?_ rfl)) hb2
        have Y2 : Blk w2 (w.heap.size + 1 + 1) 26 [.int .i64 0, .bool false, .bool false, .int .u32 0, .int .u32 0, .bool false, .bool false] := Blk.later (by repeat (first | with_reducible exact X2 | with_reducible refine Blk.drewN ?_ _ | with_reducible refine Blk.drew ?_ | with_reducible refine Blk.other ?_ (by simp <;> omega) _)) hb2
        have hbY : Below w.heap.size w w2 := Below.trans (by repeat (first | with_reducible exact hbx | with_reducible refine Below.drewN ?_ _ | with_reducible refine Below.drew ?_ | with_reducible refine Below.setCell ?_ (by simp) _)) (hb2.mono (by simp; omega))
        clear hb2 hbx X0 X1 X2 b0 b1 b2 b3 b4 b5 b6 z0 z1 z2 z3 z4 z5 z6 y0 y1 y2 y3 y4 y5 y6 x0 x1 x2 x3 x4 x5 x6
        obtain ⟨b0, b1, b2, b3, b4, b5, b6⟩ := cells7 Y0
        obtain ⟨z0, z1, z2, z3, z4, z5, z6⟩ := frozen7 Y0
        obtain ⟨y0, y1, y2, y3, y4, y5, y6⟩ := cells7 Y2
        obtain ⟨x0, x1, x2, x3, x4, x5, x6⟩ := frozen7 Y2
        go_wp2_with fail
        exact bodyPost_ret (v := .tuple #[.agg #[.int .i64 (6), .bool false, .bool false, .int .u32 a0, .int .u32 a1, .bool k0, .bool k1], .bool true]) (by simp [results, Try.results27, go_sem, y0, y1, y2, y3, y4, y5, y6]) rfl (talkR_mk HF.out (by repeat (first | with_reducible exact hbY | with_reducible refine Below.setCell ?_ (by simp; try omega) _)))
    · cases hd : decide (0 ≤ Seq.dist a1 ak)
      · cases hm : (State.acks (⟨st, false, true, a0, a1, k0, k1⟩ : State.C) == 2)
        ·
          have HF : Hid ((State.talk (⟨st, false, true, a0, a1, k0, k1⟩ : State.C) (⟨0, false, true, false, rs, Seq.step sq (State.size nb fl), ak⟩ : State.W)).1 = (⟨3 + State.fins (⟨st, false, true, a0, a1, k0, k1⟩ : State.C), false, true, a0, a1, k0, k1⟩ : State.C)) := by show _ = _; have hm2 := ne_of_beq hm; unfold State.talk State.endNow State.ackNow State.finOf; simp [hd, hm2]
          have hfb := fins_bd (⟨st, false, true, a0, a1, k0, k1⟩ : State.C)
          go_wp2_with fail
          go_quiet ((go_at_call 21; exact dist_q _ _ _ _))
          go_wp2_with fail
          refine (ended_spec (⟨st, false, true, a0, a1, k0, k1⟩ : State.C) _).mono ?_
          rintro e w2 ⟨rfl, hb2⟩
          have Y0 : Blk w2 w.heap.size 26 [.int .i64 st, .bool false, .bool true, .int .u32 a0, .int .u32 a1, .bool k0, .bool k1] := Blk.later (by repeat (first | with_reducible exact X0 | with_reducible refine Blk.drewN ?_ _ | with_reducible refine Blk.drew ?_ | with_reducible refine Blk.puts (xs := [.int .i64 st, .bool false, .bool true, .int .u32 a0, .int .u32 a1, .bool k0, .bool k1]) ?_ rfl)) hb2
          have Y2 : Blk w2 (w.heap.size + 1 + 1) 26 [.int .i64 0, .bool false, .bool false, .int .u32 0, .int .u32 0, .bool false, .bool false] := Blk.later (by repeat (first | with_reducible exact X2 | with_reducible refine Blk.drewN ?_ _ | with_reducible refine Blk.drew ?_ | with_reducible refine Blk.other ?_ (by simp <;> omega) _)) hb2
          have hbY : Below w.heap.size w w2 := Below.trans (by repeat (first | with_reducible exact hbx | with_reducible refine Below.drewN ?_ _ | with_reducible refine Below.drew ?_ | with_reducible refine Below.setCell ?_ (by simp) _)) (hb2.mono (by simp; omega))
          clear hb2 hbx X0 X1 X2 b0 b1 b2 b3 b4 b5 b6 z0 z1 z2 z3 z4 z5 z6 y0 y1 y2 y3 y4 y5 y6 x0 x1 x2 x3 x4 x5 x6
          obtain ⟨b0, b1, b2, b3, b4, b5, b6⟩ := cells7 Y0
          obtain ⟨z0, z1, z2, z3, z4, z5, z6⟩ := frozen7 Y0
          obtain ⟨y0, y1, y2, y3, y4, y5, y6⟩ := cells7 Y2
          obtain ⟨x0, x1, x2, x3, x4, x5, x6⟩ := frozen7 Y2
          go_wp2_with fail
          exact bodyPost_ret (v := .tuple #[.agg #[.int .i64 (3 + State.fins (⟨st, false, true, a0, a1, k0, k1⟩ : State.C)), .bool false, .bool true, .int .u32 a0, .int .u32 a1, .bool k0, .bool k1], .bool true]) (by simp [results, Try.results27, go_sem, y0, y1, y2, y3, y4, y5, y6]) rfl (talkR_mk HF.out (by repeat (first | with_reducible exact hbY | with_reducible refine Below.setCell ?_ (by simp; try omega) _)))
        ·
          have HF : Hid ((State.talk (⟨st, false, true, a0, a1, k0, k1⟩ : State.C) (⟨0, false, true, false, rs, Seq.step sq (State.size nb fl), ak⟩ : State.W)).1 = (⟨6, false, true, a0, a1, k0, k1⟩ : State.C)) := by show _ = _; have hm2 := eq_of_beq' hm; unfold State.talk State.endNow State.ackNow State.finOf; simp [hd, hm2]
          have hfb := fins_bd (⟨st, false, true, a0, a1, k0, k1⟩ : State.C)
          go_wp2_with fail
          go_quiet ((go_at_call 21; exact dist_q _ _ _ _))
          go_wp2_with fail
          refine (ended_spec (⟨st, false, true, a0, a1, k0, k1⟩ : State.C) _).mono ?_
          rintro e w2 ⟨rfl, hb2⟩
          have Y0 : Blk w2 w.heap.size 26 [.int .i64 st, .bool false, .bool true, .int .u32 a0, .int .u32 a1, .bool k0, .bool k1] := Blk.later (by repeat (first | with_reducible exact X0 | with_reducible refine Blk.drewN ?_ _ | with_reducible refine Blk.drew ?_ | with_reducible refine Blk.puts (xs := [.int .i64 st, .bool false, .bool true, .int .u32 a0, .int .u32 a1, .bool k0, .bool k1]) ?_ rfl)) hb2
          have Y2 : Blk w2 (w.heap.size + 1 + 1) 26 [.int .i64 0, .bool false, .bool false, .int .u32 0, .int .u32 0, .bool false, .bool false] := Blk.later (by repeat (first | with_reducible exact X2 | with_reducible refine Blk.drewN ?_ _ | with_reducible refine Blk.drew ?_ | with_reducible refine Blk.other ?_ (by simp <;> omega) _)) hb2
          have hbY : Below w.heap.size w w2 := Below.trans (by repeat (first | with_reducible exact hbx | with_reducible refine Below.drewN ?_ _ | with_reducible refine Below.drew ?_ | with_reducible refine Below.setCell ?_ (by simp) _)) (hb2.mono (by simp; omega))
          clear hb2 hbx X0 X1 X2 b0 b1 b2 b3 b4 b5 b6 z0 z1 z2 z3 z4 z5 z6 y0 y1 y2 y3 y4 y5 y6 x0 x1 x2 x3 x4 x5 x6
          obtain ⟨b0, b1, b2, b3, b4, b5, b6⟩ := cells7 Y0
          obtain ⟨z0, z1, z2, z3, z4, z5, z6⟩ := frozen7 Y0
          obtain ⟨y0, y1, y2, y3, y4, y5, y6⟩ := cells7 Y2
          obtain ⟨x0, x1, x2, x3, x4, x5, x6⟩ := frozen7 Y2
          go_wp2_with fail
          exact bodyPost_ret (v := .tuple #[.agg #[.int .i64 (6), .bool false, .bool true, .int .u32 a0, .int .u32 a1, .bool k0, .bool k1], .bool true]) (by simp [results, Try.results27, go_sem, y0, y1, y2, y3, y4, y5, y6]) rfl (talkR_mk HF.out (by repeat (first | with_reducible exact hbY | with_reducible refine Below.setCell ?_ (by simp; try omega) _)))
      · cases hm : (State.acks (⟨st, false, true, a0, a1, k0, true⟩ : State.C) == 2)
        ·
          have HF : Hid ((State.talk (⟨st, false, true, a0, a1, k0, k1⟩ : State.C) (⟨0, false, true, false, rs, Seq.step sq (State.size nb fl), ak⟩ : State.W)).1 = (⟨3 + State.fins (⟨st, false, true, a0, a1, k0, true⟩ : State.C), false, true, a0, a1, k0, true⟩ : State.C)) := by show _ = _; have hm2 := ne_of_beq hm; unfold State.talk State.endNow State.ackNow State.finOf; simp [hd, hm2]
          have hfb := fins_bd (⟨st, false, true, a0, a1, k0, true⟩ : State.C)
          go_wp2_with fail
          go_quiet ((go_at_call 21; exact dist_q _ _ _ _))
          go_wp2_with fail
          refine (ended_spec (⟨st, false, true, a0, a1, k0, true⟩ : State.C) _).mono ?_
          rintro e w2 ⟨rfl, hb2⟩
          have Y0 : Blk w2 w.heap.size 26 [.int .i64 st, .bool false, .bool true, .int .u32 a0, .int .u32 a1, .bool k0, .bool true] := Blk.later (by repeat (first | with_reducible exact X0 | with_reducible refine Blk.drewN ?_ _ | with_reducible refine Blk.drew ?_ | with_reducible refine Blk.puts (xs := [.int .i64 st, .bool false, .bool true, .int .u32 a0, .int .u32 a1, .bool k0, .bool k1]) ?_ rfl)) hb2
          have Y2 : Blk w2 (w.heap.size + 1 + 1) 26 [.int .i64 0, .bool false, .bool false, .int .u32 0, .int .u32 0, .bool false, .bool false] := Blk.later (by repeat (first | with_reducible exact X2 | with_reducible refine Blk.drewN ?_ _ | with_reducible refine Blk.drew ?_ | with_reducible refine Blk.other ?_ (by simp <;> omega) _)) hb2
          have hbY : Below w.heap.size w w2 := Below.trans (by repeat (first | with_reducible exact hbx | with_reducible refine Below.drewN ?_ _ | with_reducible refine Below.drew ?_ | with_reducible refine Below.setCell ?_ (by simp) _)) (hb2.mono (by simp; omega))
          clear hb2 hbx X0 X1 X2 b0 b1 b2 b3 b4 b5 b6 z0 z1 z2 z3 z4 z5 z6 y0 y1 y2 y3 y4 y5 y6 x0 x1 x2 x3 x4 x5 x6
          obtain ⟨b0, b1, b2, b3, b4, b5, b6⟩ := cells7 Y0
          obtain ⟨z0, z1, z2, z3, z4, z5, z6⟩ := frozen7 Y0
          obtain ⟨y0, y1, y2, y3, y4, y5, y6⟩ := cells7 Y2
          obtain ⟨x0, x1, x2, x3, x4, x5, x6⟩ := frozen7 Y2
          go_wp2_with fail
          exact bodyPost_ret (v := .tuple #[.agg #[.int .i64 (3 + State.fins (⟨st, false, true, a0, a1, k0, true⟩ : State.C)), .bool false, .bool true, .int .u32 a0, .int .u32 a1, .bool k0, .bool true], .bool true]) (by simp [results, Try.results27, go_sem, y0, y1, y2, y3, y4, y5, y6]) rfl (talkR_mk HF.out (by repeat (first | with_reducible exact hbY | with_reducible refine Below.setCell ?_ (by simp; try omega) _)))
        ·
          have HF : Hid ((State.talk (⟨st, false, true, a0, a1, k0, k1⟩ : State.C) (⟨0, false, true, false, rs, Seq.step sq (State.size nb fl), ak⟩ : State.W)).1 = (⟨6, false, true, a0, a1, k0, true⟩ : State.C)) := by show _ = _; have hm2 := eq_of_beq' hm; unfold State.talk State.endNow State.ackNow State.finOf; simp [hd, hm2]
          have hfb := fins_bd (⟨st, false, true, a0, a1, k0, true⟩ : State.C)
          go_wp2_with fail
          go_quiet ((go_at_call 21; exact dist_q _ _ _ _))
          go_wp2_with fail
          refine (ended_spec (⟨st, false, true, a0, a1, k0, true⟩ : State.C) _).mono ?_
          rintro e w2 ⟨rfl, hb2⟩
          have Y0 : Blk w2 w.heap.size 26 [.int .i64 st, .bool false, .bool true, .int .u32 a0, .int .u32 a1, .bool k0, .bool true] := Blk.later (by repeat (first | with_reducible exact X0 | with_reducible refine Blk.drewN ?_ _ | with_reducible refine Blk.drew ?_ | with_reducible refine Blk.puts (xs := [.int .i64 st, .bool false, .bool true, .int .u32 a0, .int .u32 a1, .bool k0, .bool k1]) ?_ rfl)) hb2
          have Y2 : Blk w2 (w.heap.size + 1 + 1) 26 [.int .i64 0, .bool false, .bool false, .int .u32 0, .int .u32 0, .bool false, .bool false] := Blk.later (by repeat (first | with_reducible exact X2 | with_reducible refine Blk.drewN ?_ _ | with_reducible refine Blk.drew ?_ | with_reducible refine Blk.other ?_ (by simp <;> omega) _)) hb2
          have hbY : Below w.heap.size w w2 := Below.trans (by repeat (first | with_reducible exact hbx | with_reducible refine Below.drewN ?_ _ | with_reducible refine Below.drew ?_ | with_reducible refine Below.setCell ?_ (by simp) _)) (hb2.mono (by simp; omega))
          clear hb2 hbx X0 X1 X2 b0 b1 b2 b3 b4 b5 b6 z0 z1 z2 z3 z4 z5 z6 y0 y1 y2 y3 y4 y5 y6 x0 x1 x2 x3 x4 x5 x6
          obtain ⟨b0, b1, b2, b3, b4, b5, b6⟩ := cells7 Y0
          obtain ⟨z0, z1, z2, z3, z4, z5, z6⟩ := frozen7 Y0
          obtain ⟨y0, y1, y2, y3, y4, y5, y6⟩ := cells7 Y2
          obtain ⟨x0, x1, x2, x3, x4, x5, x6⟩ := frozen7 Y2
          go_wp2_with fail
          exact bodyPost_ret (v := .tuple #[.agg #[.int .i64 (6), .bool false, .bool true, .int .u32 a0, .int .u32 a1, .bool k0, .bool true], .bool true]) (by simp [results, Try.results27, go_sem, y0, y1, y2, y3, y4, y5, y6]) rfl (talkR_mk HF.out (by repeat (first | with_reducible exact hbY | with_reducible refine Below.setCell ?_ (by simp; try omega) _)))
set_option maxHeartbeats 4000000 in
theorem talk_0ne (st a0 a1 : Int) (f1 k0 k1 : Bool) (sp dp sq ak fl wi ur : Int) (Ao : Option Addr) (no co : Nat) (Ab : Option Addr) (nb cb : Nat) (rs : Bool) (w : World) (hn : nb ≤ 4294967295) :
    Calls Try.prog 27 #[.agg #[.int .i64 st, .bool true, .bool f1, .int .u32 a0, .int .u32 a1, .bool k0, .bool k1], .agg #[.int .i64 sp, .int .i64 dp, .int .u32 sq, .int .u32 ak, .int .i64 fl, .int .i64 wi, .int .i64 ur, .slice Ao no co, .slice Ab nb cb, .int .i64 0, .bool false, .bool true, .bool false, .bool rs]] w
      fun e w' => TalkR (State.talk (⟨st, true, f1, a0, a1, k0, k1⟩ : State.C) (⟨0, false, true, false, rs, Seq.step sq (State.size nb fl), ak⟩ : State.W)).1 true w e w' := by
  obtain ⟨W, hW⟩ : ∃ W, W = ((w.alloc (.cells #[.int .i64 st, .bool true, .bool f1, .int .u32 a0, .int .u32 a1, .bool k0, .bool k1] 26)).alloc (.cells #[.int .i64 sp, .int .i64 dp, .int .u32 sq, .int .u32 ak, .int .i64 fl, .int .i64 wi, .int .i64 ur, .slice Ao no co, .slice Ab nb cb, .int .i64 0, .bool false, .bool true, .bool false, .bool rs] 60)).alloc (.cells #[.int .i64 0, .bool false, .bool false, .int .u32 0, .int .u32 0, .bool false, .bool false] 26) := ⟨_, rfl⟩
  have hbW : Below w.heap.size w W := by rw [hW]; exact (((Below.refl _ _).alloc (Nat.le_refl _) _).alloc (by simp) _).alloc (by simp; omega) _
  have B0 : Blk W w.heap.size 26 [.int .i64 st, .bool true, .bool f1, .int .u32 a0, .int .u32 a1, .bool k0, .bool k1] := by rw [hW]; exact ((Blk.new _ _ [.int .i64 st, .bool true, .bool f1, .int .u32 a0, .int .u32 a1, .bool k0, .bool k1] _ rfl).alloc _).alloc _
  have B1 : Blk W (w.heap.size + 1) 60 [.int .i64 sp, .int .i64 dp, .int .u32 sq, .int .u32 ak, .int .i64 fl, .int .i64 wi, .int .i64 ur, .slice Ao no co, .slice Ab nb cb, .int .i64 0, .bool false, .bool true, .bool false, .bool rs] := by rw [hW]; exact (Blk.new _ _ [.int .i64 sp, .int .i64 dp, .int .u32 sq, .int .u32 ak, .int .i64 fl, .int .i64 wi, .int .i64 ur, .slice Ao no co, .slice Ab nb cb, .int .i64 0, .bool false, .bool true, .bool false, .bool rs] _ (by simp)).alloc _
  have B2 : Blk W (w.heap.size + 1 + 1) 26 [.int .i64 0, .bool false, .bool false, .int .u32 0, .int .u32 0, .bool false, .bool false] := by rw [hW]; exact (Blk.new _ _ [.int .i64 0, .bool false, .bool false, .int .u32 0, .int .u32 0, .bool false, .bool false] _ (by simp))
  have hWs : w.heap.size + 3 ≤ W.heap.size := by rw [hW]; simp
  have hg0 : w.heap.size < W.heap.size := by omega
  have hg1 : w.heap.size + 1 < W.heap.size := by omega
  obtain ⟨k0', k1', k2', k3', k4', k5', k6', k7', k8', k9'⟩ := cells10 B1
  obtain ⟨b0, b1, b2, b3, b4, b5, b6⟩ := cells7 B0
  obtain ⟨z0, z1, z2, z3, z4, z5, z6⟩ := frozen7 B0
  go_enter Try.func27, Try.ntmps27
  go_upto_if 26 with (fail)
  rw [← hW]
  clear hW
  go_cut [] (fun wx => Below w.heap.size w wx ∧ w.heap.size + 3 ≤ wx.heap.size ∧ Blk wx w.heap.size 26 [.int .i64 st, .bool true, .bool f1, .int .u32 a0, .int .u32 a1, .bool k0, .bool k1] ∧ Blk wx (w.heap.size + 1) 60 [.int .i64 sp, .int .i64 dp, .int .u32 sq, .int .u32 ak, .int .i64 fl, .int .i64 wi, .int .i64 ur, .slice Ao no co, .slice Ab nb cb, .int .i64 0, .bool false, .bool true, .bool false, .bool rs] ∧ Blk wx (w.heap.size + 1 + 1) 26 [.int .i64 0, .bool false, .bool false, .int .u32 0, .int .u32 0, .bool false, .bool false])
  case first =>
    go_wp2_with fail
    go_meet
    exact ⟨hbW, hWs, B0, B1, B2⟩
  case rest =>
    obtain ⟨hbx, hxs, X0, X1, X2⟩ := hcut
    clear B0 B1 B2 hbW hWs hg0 hg1 k0' k1' k2' k3' k4' k5' k6' k7' k8' k9' b0 b1 b2 b3 b4 b5 b6 z0 z1 z2 z3 z4 z5 z6
    have hg0 : w.heap.size < wc.heap.size := by omega
    have hg1 : w.heap.size + 1 < wc.heap.size := by omega
    have hg2 : w.heap.size + 1 + 1 < wc.heap.size := by omega
    obtain ⟨k0', k1', k2', k3', k4', k5', k6', k7', k8', k9'⟩ := cells10 X1
    obtain ⟨b0, b1, b2, b3, b4, b5, b6⟩ := cells7 X0
    obtain ⟨z0, z1, z2, z3, z4, z5, z6⟩ := frozen7 X0
    obtain ⟨y0, y1, y2, y3, y4, y5, y6⟩ := cells7 X2
    obtain ⟨x0, x1, x2, x3, x4, x5, x6⟩ := frozen7 X2
    clear k0' k1' k2' k4' k5' k6' k7' k8' 
    cases f1
    · cases hm : (State.acks (⟨st, true, false, a0, a1, k0, k1⟩ : State.C) == 2)
      ·
        have HF : Hid ((State.talk (⟨st, true, false, a0, a1, k0, k1⟩ : State.C) (⟨0, false, true, false, rs, Seq.step sq (State.size nb fl), ak⟩ : State.W)).1 = (⟨3 + State.fins (⟨st, true, false, a0, a1, k0, k1⟩ : State.C), true, false, a0, a1, k0, k1⟩ : State.C)) := by show _ = _; have hm2 := ne_of_beq hm; unfold State.talk State.endNow State.ackNow State.finOf; simp [hm2]
        have hfb := fins_bd (⟨st, true, false, a0, a1, k0, k1⟩ : State.C)
        go_wp2_with fail
        go_quiet ((go_at_call 21; exact dist_q _ _ _ _))
        go_wp2_with fail
        refine (ended_spec (⟨st, true, false, a0, a1, k0, k1⟩ : State.C) _).mono ?_
        rintro e w2 ⟨rfl, hb2⟩
        have Y0 : Blk w2 w.heap.size 26 [.int .i64 st, .bool true, .bool false, .int .u32 a0, .int .u32 a1, .bool k0, .bool k1] := Blk.later (by repeat (first | with_reducible exact X0 | with_reducible refine Blk.drewN ?_ _ | with_reducible refine Blk.drew ?_ | with_reducible refine Blk.puts (xs := [.int .i64 st, .bool true, .bool false, .int .u32 a0, .int .u32 a1, .bool k0, .bool k1]) ?_ rfl)) hb2
        have Y2 : Blk w2 (w.heap.size + 1 + 1) 26 [.int .i64 0, .bool false, .bool false, .int .u32 0, .int .u32 0, .bool false, .bool false] := Blk.later (by repeat (first | with_reducible exact X2 | with_reducible refine Blk.drewN ?_ _ | with_reducible refine Blk.drew ?_ | with_reducible refine Blk.other ?_ (by simp <;> omega) _)) hb2
        have hbY : Below w.heap.size w w2 := Below.trans (by repeat (first | with_reducible exact hbx | with_reducible refine Below.drewN ?_ _ | with_reducible refine Below.drew ?_ | with_reducible refine Below.setCell ?_ (by simp) _)) (hb2.mono (by simp; omega))
        clear hb2 hbx X0 X1 X2 b0 b1 b2 b3 b4 b5 b6 z0 z1 z2 z3 z4 z5 z6 y0 y1 y2 y3 y4 y5 y6 x0 x1 x2 x3 x4 x5 x6
        obtain ⟨b0, b1, b2, b3, b4, b5, b6⟩ := cells7 Y0
        obtain ⟨z0, z1, z2, z3, z4, z5, z6⟩ := frozen7 Y0
        obtain ⟨y0, y1, y2, y3, y4, y5, y6⟩ := cells7 Y2
        obtain ⟨x0, x1, x2, x3, x4, x5, x6⟩ := frozen7 Y2
        go_wp2_with fail
        exact bodyPost_ret (v := .tuple #[.agg #[.int .i64 (3 + State.fins (⟨st, true, false, a0, a1, k0, k1⟩ : State.C)), .bool true, .bool false, .int .u32 a0, .int .u32 a1, .bool k0, .bool k1], .bool true]) (by simp [results, Try.results27, go_sem, y0, y1, y2, y3, y4, y5, y6]) rfl (talkR_mk HF.out (by repeat (first | with_reducible exact hbY | with_reducible refine Below.setCell ?_ (by simp; try omega) _)))
      ·
        have HF : Hid ((State.talk (⟨st, true, false, a0, a1, k0, k1⟩ : State.C) (⟨0, false, true, false, rs, Seq.step sq (State.size nb fl), ak⟩ : State.W)).1 = (⟨6, true, false, a0, a1, k0, k1⟩ : State.C)) := by show _ = _; have hm2 := eq_of_beq' hm; unfold State.talk State.endNow State.ackNow State.finOf; simp [hm2]
        have hfb := fins_bd (⟨st, true, false, a0, a1, k0, k1⟩ : State.C)
        go_wp2_with fail
        go_quiet ((go_at_call 21; exact dist_q _ _ _ _))
        go_wp2_with fail
        refine (ended_spec (⟨st, true, false, a0, a1, k0, k1⟩ : State.C) _).mono ?_
        rintro e w2 ⟨rfl, hb2⟩
        have Y0 : Blk w2 w.heap.size 26 [.int .i64 st, .bool true, .bool false, .int .u32 a0, .int .u32 a1, .bool k0, .bool k1] := Blk.later (by repeat (first | with_reducible exact X0 | with_reducible refine Blk.drewN ?_ _ | with_reducible refine Blk.drew ?_ | with_reducible refine Blk.puts (xs := [.int .i64 st, .bool true, .bool false, .int .u32 a0, .int .u32 a1, .bool k0, .bool k1]) ?_ rfl)) hb2
        have Y2 : Blk w2 (w.heap.size + 1 + 1) 26 [.int .i64 0, .bool false, .bool false, .int .u32 0, .int .u32 0, .bool false, .bool false] := Blk.later (by repeat (first | with_reducible exact X2 | with_reducible refine Blk.drewN ?_ _ | with_reducible refine Blk.drew ?_ | with_reducible refine Blk.other ?_ (by simp <;> omega) _)) hb2
        have hbY : Below w.heap.size w w2 := Below.trans (by repeat (first | with_reducible exact hbx | with_reducible refine Below.drewN ?_ _ | with_reducible refine Below.drew ?_ | with_reducible refine Below.setCell ?_ (by simp) _)) (hb2.mono (by simp; omega))
        clear hb2 hbx X0 X1 X2 b0 b1 b2 b3 b4 b5 b6 z0 z1 z2 z3 z4 z5 z6 y0 y1 y2 y3 y4 y5 y6 x0 x1 x2 x3 x4 x5 x6
        obtain ⟨b0, b1, b2, b3, b4, b5, b6⟩ := cells7 Y0
        obtain ⟨z0, z1, z2, z3, z4, z5, z6⟩ := frozen7 Y0
        obtain ⟨y0, y1, y2, y3, y4, y5, y6⟩ := cells7 Y2
        obtain ⟨x0, x1, x2, x3, x4, x5, x6⟩ := frozen7 Y2
        go_wp2_with fail
        exact bodyPost_ret (v := .tuple #[.agg #[.int .i64 (6), .bool true, .bool false, .int .u32 a0, .int .u32 a1, .bool k0, .bool k1], .bool true]) (by simp [results, Try.results27, go_sem, y0, y1, y2, y3, y4, y5, y6]) rfl (talkR_mk HF.out (by repeat (first | with_reducible exact hbY | with_reducible refine Below.setCell ?_ (by simp; try omega) _)))
    · cases hd : decide (0 ≤ Seq.dist a1 ak)
      · cases hm : (State.acks (⟨st, true, true, a0, a1, k0, k1⟩ : State.C) == 2)
        ·
          have HF : Hid ((State.talk (⟨st, true, true, a0, a1, k0, k1⟩ : State.C) (⟨0, false, true, false, rs, Seq.step sq (State.size nb fl), ak⟩ : State.W)).1 = (⟨3 + State.fins (⟨st, true, true, a0, a1, k0, k1⟩ : State.C), true, true, a0, a1, k0, k1⟩ : State.C)) := by show _ = _; have hm2 := ne_of_beq hm; unfold State.talk State.endNow State.ackNow State.finOf; simp [hd, hm2]
          have hfb := fins_bd (⟨st, true, true, a0, a1, k0, k1⟩ : State.C)
          go_wp2_with fail
          go_quiet ((go_at_call 21; exact dist_q _ _ _ _))
          go_wp2_with fail
          refine (ended_spec (⟨st, true, true, a0, a1, k0, k1⟩ : State.C) _).mono ?_
          rintro e w2 ⟨rfl, hb2⟩
          have Y0 : Blk w2 w.heap.size 26 [.int .i64 st, .bool true, .bool true, .int .u32 a0, .int .u32 a1, .bool k0, .bool k1] := Blk.later (by repeat (first | with_reducible exact X0 | with_reducible refine Blk.drewN ?_ _ | with_reducible refine Blk.drew ?_ | with_reducible refine Blk.puts (xs := [.int .i64 st, .bool true, .bool true, .int .u32 a0, .int .u32 a1, .bool k0, .bool k1]) ?_ rfl)) hb2
          have Y2 : Blk w2 (w.heap.size + 1 + 1) 26 [.int .i64 0, .bool false, .bool false, .int .u32 0, .int .u32 0, .bool false, .bool false] := Blk.later (by repeat (first | with_reducible exact X2 | with_reducible refine Blk.drewN ?_ _ | with_reducible refine Blk.drew ?_ | with_reducible refine Blk.other ?_ (by simp <;> omega) _)) hb2
          have hbY : Below w.heap.size w w2 := Below.trans (by repeat (first | with_reducible exact hbx | with_reducible refine Below.drewN ?_ _ | with_reducible refine Below.drew ?_ | with_reducible refine Below.setCell ?_ (by simp) _)) (hb2.mono (by simp; omega))
          clear hb2 hbx X0 X1 X2 b0 b1 b2 b3 b4 b5 b6 z0 z1 z2 z3 z4 z5 z6 y0 y1 y2 y3 y4 y5 y6 x0 x1 x2 x3 x4 x5 x6
          obtain ⟨b0, b1, b2, b3, b4, b5, b6⟩ := cells7 Y0
          obtain ⟨z0, z1, z2, z3, z4, z5, z6⟩ := frozen7 Y0
          obtain ⟨y0, y1, y2, y3, y4, y5, y6⟩ := cells7 Y2
          obtain ⟨x0, x1, x2, x3, x4, x5, x6⟩ := frozen7 Y2
          go_wp2_with fail
          exact bodyPost_ret (v := .tuple #[.agg #[.int .i64 (3 + State.fins (⟨st, true, true, a0, a1, k0, k1⟩ : State.C)), .bool true, .bool true, .int .u32 a0, .int .u32 a1, .bool k0, .bool k1], .bool true]) (by simp [results, Try.results27, go_sem, y0, y1, y2, y3, y4, y5, y6]) rfl (talkR_mk HF.out (by repeat (first | with_reducible exact hbY | with_reducible refine Below.setCell ?_ (by simp; try omega) _)))
        ·
          have HF : Hid ((State.talk (⟨st, true, true, a0, a1, k0, k1⟩ : State.C) (⟨0, false, true, false, rs, Seq.step sq (State.size nb fl), ak⟩ : State.W)).1 = (⟨6, true, true, a0, a1, k0, k1⟩ : State.C)) := by show _ = _; have hm2 := eq_of_beq' hm; unfold State.talk State.endNow State.ackNow State.finOf; simp [hd, hm2]
          have hfb := fins_bd (⟨st, true, true, a0, a1, k0, k1⟩ : State.C)
          go_wp2_with fail
          go_quiet ((go_at_call 21; exact dist_q _ _ _ _))
          go_wp2_with fail
          refine (ended_spec (⟨st, true, true, a0, a1, k0, k1⟩ : State.C) _).mono ?_
          rintro e w2 ⟨rfl, hb2⟩
          have Y0 : Blk w2 w.heap.size 26 [.int .i64 st, .bool true, .bool true, .int .u32 a0, .int .u32 a1, .bool k0, .bool k1] := Blk.later (by repeat (first | with_reducible exact X0 | with_reducible refine Blk.drewN ?_ _ | with_reducible refine Blk.drew ?_ | with_reducible refine Blk.puts (xs := [.int .i64 st, .bool true, .bool true, .int .u32 a0, .int .u32 a1, .bool k0, .bool k1]) ?_ rfl)) hb2
          have Y2 : Blk w2 (w.heap.size + 1 + 1) 26 [.int .i64 0, .bool false, .bool false, .int .u32 0, .int .u32 0, .bool false, .bool false] := Blk.later (by repeat (first | with_reducible exact X2 | with_reducible refine Blk.drewN ?_ _ | with_reducible refine Blk.drew ?_ | with_reducible refine Blk.other ?_ (by simp <;> omega) _)) hb2
          have hbY : Below w.heap.size w w2 := Below.trans (by repeat (first | with_reducible exact hbx | with_reducible refine Below.drewN ?_ _ | with_reducible refine Below.drew ?_ | with_reducible refine Below.setCell ?_ (by simp) _)) (hb2.mono (by simp; omega))
          clear hb2 hbx X0 X1 X2 b0 b1 b2 b3 b4 b5 b6 z0 z1 z2 z3 z4 z5 z6 y0 y1 y2 y3 y4 y5 y6 x0 x1 x2 x3 x4 x5 x6
          obtain ⟨b0, b1, b2, b3, b4, b5, b6⟩ := cells7 Y0
          obtain ⟨z0, z1, z2, z3, z4, z5, z6⟩ := frozen7 Y0
          obtain ⟨y0, y1, y2, y3, y4, y5, y6⟩ := cells7 Y2
          obtain ⟨x0, x1, x2, x3, x4, x5, x6⟩ := frozen7 Y2
          go_wp2_with fail
          exact bodyPost_ret (v := .tuple #[.agg #[.int .i64 (6), .bool true, .bool true, .int .u32 a0, .int .u32 a1, .bool k0, .bool k1], .bool true]) (by simp [results, Try.results27, go_sem, y0, y1, y2, y3, y4, y5, y6]) rfl (talkR_mk HF.out (by repeat (first | with_reducible exact hbY | with_reducible refine Below.setCell ?_ (by simp; try omega) _)))
      · cases hm : (State.acks (⟨st, true, true, a0, a1, k0, true⟩ : State.C) == 2)
        ·
          have HF : Hid ((State.talk (⟨st, true, true, a0, a1, k0, k1⟩ : State.C) (⟨0, false, true, false, rs, Seq.step sq (State.size nb fl), ak⟩ : State.W)).1 = (⟨3 + State.fins (⟨st, true, true, a0, a1, k0, true⟩ : State.C), true, true, a0, a1, k0, true⟩ : State.C)) := by show _ = _; have hm2 := ne_of_beq hm; unfold State.talk State.endNow State.ackNow State.finOf; simp [hd, hm2]
          have hfb := fins_bd (⟨st, true, true, a0, a1, k0, true⟩ : State.C)
          go_wp2_with fail
          go_quiet ((go_at_call 21; exact dist_q _ _ _ _))
          go_wp2_with fail
          refine (ended_spec (⟨st, true, true, a0, a1, k0, true⟩ : State.C) _).mono ?_
          rintro e w2 ⟨rfl, hb2⟩
          have Y0 : Blk w2 w.heap.size 26 [.int .i64 st, .bool true, .bool true, .int .u32 a0, .int .u32 a1, .bool k0, .bool true] := Blk.later (by repeat (first | with_reducible exact X0 | with_reducible refine Blk.drewN ?_ _ | with_reducible refine Blk.drew ?_ | with_reducible refine Blk.puts (xs := [.int .i64 st, .bool true, .bool true, .int .u32 a0, .int .u32 a1, .bool k0, .bool k1]) ?_ rfl)) hb2
          have Y2 : Blk w2 (w.heap.size + 1 + 1) 26 [.int .i64 0, .bool false, .bool false, .int .u32 0, .int .u32 0, .bool false, .bool false] := Blk.later (by repeat (first | with_reducible exact X2 | with_reducible refine Blk.drewN ?_ _ | with_reducible refine Blk.drew ?_ | with_reducible refine Blk.other ?_ (by simp <;> omega) _)) hb2
          have hbY : Below w.heap.size w w2 := Below.trans (by repeat (first | with_reducible exact hbx | with_reducible refine Below.drewN ?_ _ | with_reducible refine Below.drew ?_ | with_reducible refine Below.setCell ?_ (by simp) _)) (hb2.mono (by simp; omega))
          clear hb2 hbx X0 X1 X2 b0 b1 b2 b3 b4 b5 b6 z0 z1 z2 z3 z4 z5 z6 y0 y1 y2 y3 y4 y5 y6 x0 x1 x2 x3 x4 x5 x6
          obtain ⟨b0, b1, b2, b3, b4, b5, b6⟩ := cells7 Y0
          obtain ⟨z0, z1, z2, z3, z4, z5, z6⟩ := frozen7 Y0
          obtain ⟨y0, y1, y2, y3, y4, y5, y6⟩ := cells7 Y2
          obtain ⟨x0, x1, x2, x3, x4, x5, x6⟩ := frozen7 Y2
          go_wp2_with fail
          exact bodyPost_ret (v := .tuple #[.agg #[.int .i64 (3 + State.fins (⟨st, true, true, a0, a1, k0, true⟩ : State.C)), .bool true, .bool true, .int .u32 a0, .int .u32 a1, .bool k0, .bool true], .bool true]) (by simp [results, Try.results27, go_sem, y0, y1, y2, y3, y4, y5, y6]) rfl (talkR_mk HF.out (by repeat (first | with_reducible exact hbY | with_reducible refine Below.setCell ?_ (by simp; try omega) _)))
        ·
          have HF : Hid ((State.talk (⟨st, true, true, a0, a1, k0, k1⟩ : State.C) (⟨0, false, true, false, rs, Seq.step sq (State.size nb fl), ak⟩ : State.W)).1 = (⟨6, true, true, a0, a1, k0, true⟩ : State.C)) := by show _ = _; have hm2 := eq_of_beq' hm; unfold State.talk State.endNow State.ackNow State.finOf; simp [hd, hm2]
          have hfb := fins_bd (⟨st, true, true, a0, a1, k0, true⟩ : State.C)
          go_wp2_with fail
          go_quiet ((go_at_call 21; exact dist_q _ _ _ _))
          go_wp2_with fail
          refine (ended_spec (⟨st, true, true, a0, a1, k0, true⟩ : State.C) _).mono ?_
          rintro e w2 ⟨rfl, hb2⟩
          have Y0 : Blk w2 w.heap.size 26 [.int .i64 st, .bool true, .bool true, .int .u32 a0, .int .u32 a1, .bool k0, .bool true] := Blk.later (by repeat (first | with_reducible exact X0 | with_reducible refine Blk.drewN ?_ _ | with_reducible refine Blk.drew ?_ | with_reducible refine Blk.puts (xs := [.int .i64 st, .bool true, .bool true, .int .u32 a0, .int .u32 a1, .bool k0, .bool k1]) ?_ rfl)) hb2
          have Y2 : Blk w2 (w.heap.size + 1 + 1) 26 [.int .i64 0, .bool false, .bool false, .int .u32 0, .int .u32 0, .bool false, .bool false] := Blk.later (by repeat (first | with_reducible exact X2 | with_reducible refine Blk.drewN ?_ _ | with_reducible refine Blk.drew ?_ | with_reducible refine Blk.other ?_ (by simp <;> omega) _)) hb2
          have hbY : Below w.heap.size w w2 := Below.trans (by repeat (first | with_reducible exact hbx | with_reducible refine Below.drewN ?_ _ | with_reducible refine Below.drew ?_ | with_reducible refine Below.setCell ?_ (by simp) _)) (hb2.mono (by simp; omega))
          clear hb2 hbx X0 X1 X2 b0 b1 b2 b3 b4 b5 b6 z0 z1 z2 z3 z4 z5 z6 y0 y1 y2 y3 y4 y5 y6 x0 x1 x2 x3 x4 x5 x6
          obtain ⟨b0, b1, b2, b3, b4, b5, b6⟩ := cells7 Y0
          obtain ⟨z0, z1, z2, z3, z4, z5, z6⟩ := frozen7 Y0
          obtain ⟨y0, y1, y2, y3, y4, y5, y6⟩ := cells7 Y2
          obtain ⟨x0, x1, x2, x3, x4, x5, x6⟩ := frozen7 Y2
          go_wp2_with fail
          exact bodyPost_ret (v := .tuple #[.agg #[.int .i64 (6), .bool true, .bool true, .int .u32 a0, .int .u32 a1, .bool k0, .bool true], .bool true]) (by simp [results, Try.results27, go_sem, y0, y1, y2, y3, y4, y5, y6]) rfl (talkR_mk HF.out (by repeat (first | with_reducible exact hbY | with_reducible refine Below.setCell ?_ (by simp; try omega) _)))
set_option maxHeartbeats 4000000 in
theorem talk_0fo (st a0 a1 : Int) (f1 k0 k1 : Bool) (sp dp sq ak fl wi ur : Int) (Ao : Option Addr) (no co : Nat) (Ab : Option Addr) (nb cb : Nat) (rs : Bool) (w : World) (hn : nb ≤ 4294967295) :
    Calls Try.prog 27 #[.agg #[.int .i64 st, .bool false, .bool f1, .int .u32 a0, .int .u32 a1, .bool k0, .bool k1], .agg #[.int .i64 sp, .int .i64 dp, .int .u32 sq, .int .u32 ak, .int .i64 fl, .int .i64 wi, .int .i64 ur, .slice Ao no co, .slice Ab nb cb, .int .i64 0, .bool false, .bool true, .bool true, .bool rs]] w
      fun e w' => TalkR (State.talk (⟨st, false, f1, a0, a1, k0, k1⟩ : State.C) (⟨0, false, true, true, rs, Seq.step sq (State.size nb fl), ak⟩ : State.W)).1 true w e w' := by
  obtain ⟨W, hW⟩ : ∃ W, W = ((w.alloc (.cells #[.int .i64 st, .bool false, .bool f1, .int .u32 a0, .int .u32 a1, .bool k0, .bool k1] 26)).alloc (.cells #[.int .i64 sp, .int .i64 dp, .int .u32 sq, .int .u32 ak, .int .i64 fl, .int .i64 wi, .int .i64 ur, .slice Ao no co, .slice Ab nb cb, .int .i64 0, .bool false, .bool true, .bool true, .bool rs] 60)).alloc (.cells #[.int .i64 0, .bool false, .bool false, .int .u32 0, .int .u32 0, .bool false, .bool false] 26) := ⟨_, rfl⟩
  have hbW : Below w.heap.size w W := by rw [hW]; exact (((Below.refl _ _).alloc (Nat.le_refl _) _).alloc (by simp) _).alloc (by simp; omega) _
  have B0 : Blk W w.heap.size 26 [.int .i64 st, .bool false, .bool f1, .int .u32 a0, .int .u32 a1, .bool k0, .bool k1] := by rw [hW]; exact ((Blk.new _ _ [.int .i64 st, .bool false, .bool f1, .int .u32 a0, .int .u32 a1, .bool k0, .bool k1] _ rfl).alloc _).alloc _
  have B1 : Blk W (w.heap.size + 1) 60 [.int .i64 sp, .int .i64 dp, .int .u32 sq, .int .u32 ak, .int .i64 fl, .int .i64 wi, .int .i64 ur, .slice Ao no co, .slice Ab nb cb, .int .i64 0, .bool false, .bool true, .bool true, .bool rs] := by rw [hW]; exact (Blk.new _ _ [.int .i64 sp, .int .i64 dp, .int .u32 sq, .int .u32 ak, .int .i64 fl, .int .i64 wi, .int .i64 ur, .slice Ao no co, .slice Ab nb cb, .int .i64 0, .bool false, .bool true, .bool true, .bool rs] _ (by simp)).alloc _
  have B2 : Blk W (w.heap.size + 1 + 1) 26 [.int .i64 0, .bool false, .bool false, .int .u32 0, .int .u32 0, .bool false, .bool false] := by rw [hW]; exact (Blk.new _ _ [.int .i64 0, .bool false, .bool false, .int .u32 0, .int .u32 0, .bool false, .bool false] _ (by simp))
  have hWs : w.heap.size + 3 ≤ W.heap.size := by rw [hW]; simp
  have hg0 : w.heap.size < W.heap.size := by omega
  have hg1 : w.heap.size + 1 < W.heap.size := by omega
  obtain ⟨k0', k1', k2', k3', k4', k5', k6', k7', k8', k9'⟩ := cells10 B1
  obtain ⟨b0, b1, b2, b3, b4, b5, b6⟩ := cells7 B0
  obtain ⟨z0, z1, z2, z3, z4, z5, z6⟩ := frozen7 B0
  go_enter Try.func27, Try.ntmps27
  go_upto_if 26 with (fail)
  rw [← hW]
  clear hW
  go_cut [] (fun wx => Below w.heap.size w wx ∧ w.heap.size + 3 ≤ wx.heap.size ∧ Blk wx w.heap.size 26 [.int .i64 st, .bool true, .bool f1, .int .u32 (Seq.step sq (State.size nb fl)), .int .u32 a1, .bool k0, .bool k1] ∧ Blk wx (w.heap.size + 1) 60 [.int .i64 sp, .int .i64 dp, .int .u32 sq, .int .u32 ak, .int .i64 fl, .int .i64 wi, .int .i64 ur, .slice Ao no co, .slice Ab nb cb, .int .i64 0, .bool false, .bool true, .bool true, .bool rs] ∧ Blk wx (w.heap.size + 1 + 1) 26 [.int .i64 0, .bool false, .bool false, .int .u32 0, .int .u32 0, .bool false, .bool false])
  case first =>
    go_wp2_with fail
    go_region_held3 (fun w' => w'.cell? ⟨w.heap.size + 1, 0, none⟩ = some (.int .i64 sp) ∧ w'.cell? ⟨w.heap.size + 1, 1, none⟩ = some (.int .i64 dp) ∧ w'.cell? ⟨w.heap.size + 1, 2, none⟩ = some (.int .u32 sq) ∧ w'.cell? ⟨w.heap.size + 1, 3, none⟩ = some (.int .u32 ak) ∧ w'.cell? ⟨w.heap.size + 1, 4, none⟩ = some (.int .i64 fl) ∧ w'.cell? ⟨w.heap.size + 1, 5, none⟩ = some (.int .i64 wi) ∧ w'.cell? ⟨w.heap.size + 1, 6, none⟩ = some (.int .i64 ur) ∧ w'.cell? ⟨w.heap.size + 1, 7, none⟩ = some (.slice Ao no co) ∧ w'.cell? ⟨w.heap.size + 1, 8, none⟩ = some (.slice Ab nb cb) ∧ w'.cell? ⟨w.heap.size + 1, 9, none⟩ = some (.int .i64 0)) (exact cells10 (g := w.heap.size + 1) (T := 60) (xs := [.bool false, .bool true, .bool true, .bool rs]) (by repeat (first | with_reducible exact B1 | with_reducible refine Blk.drew ?_ | with_reducible refine Blk.alloc ?_ _ | with_reducible refine Blk.other ?_ (by simp <;> omega) _)))
      (first | (go_at_call 23; refine (size_at sp dp sq ak fl wi ur Ao no co Ab nb cb _ hn).mono ?_; rintro e w' ⟨rfl, rfl⟩) | (go_at_call 22; refine (seq_step _ _ _).mono ?_; rintro e w' ⟨rfl, rfl⟩))
    all_goals
      go_wp2_with fail
      go_meet
      exact ⟨(by repeat (first | with_reducible exact hbW | with_reducible refine Below.drew ?_ | with_reducible refine Below.setCell ?_ (by simp) _ | with_reducible refine Below.alloc ?_ (by simp; omega) _)), (by simp; omega), (by repeat (first | exact Blk.puts (xs := [.int .i64 st, .bool true, .bool f1, .int .u32 a0, .int .u32 a1, .bool k0, .bool k1]) (Blk.puts (xs := [.int .i64 st, .bool false, .bool f1, .int .u32 a0, .int .u32 a1, .bool k0, .bool k1]) B0 rfl) rfl | with_reducible refine Blk.drew ?_ | with_reducible refine Blk.alloc ?_ _)), (by repeat (first | with_reducible exact B1 | with_reducible refine Blk.drew ?_ | with_reducible refine Blk.alloc ?_ _ | with_reducible refine Blk.other ?_ (by simp <;> omega) _)), (by repeat (first | with_reducible exact B2 | with_reducible refine Blk.drew ?_ | with_reducible refine Blk.alloc ?_ _ | with_reducible refine Blk.other ?_ (by simp <;> omega) _))⟩
  case rest =>
    obtain ⟨hbx, hxs, X0, X1, X2⟩ := hcut
    clear B0 B1 B2 hbW hWs hg0 hg1 k0' k1' k2' k3' k4' k5' k6' k7' k8' k9' b0 b1 b2 b3 b4 b5 b6 z0 z1 z2 z3 z4 z5 z6
    have hg0 : w.heap.size < wc.heap.size := by omega
    have hg1 : w.heap.size + 1 < wc.heap.size := by omega
    have hg2 : w.heap.size + 1 + 1 < wc.heap.size := by omega
    obtain ⟨k0', k1', k2', k3', k4', k5', k6', k7', k8', k9'⟩ := cells10 X1
    obtain ⟨b0, b1, b2, b3, b4, b5, b6⟩ := cells7 X0
    obtain ⟨z0, z1, z2, z3, z4, z5, z6⟩ := frozen7 X0
    obtain ⟨y0, y1, y2, y3, y4, y5, y6⟩ := cells7 X2
    obtain ⟨x0, x1, x2, x3, x4, x5, x6⟩ := frozen7 X2
    clear k0' k1' k2' k4' k5' k6' k7' k8' 
    cases f1
    · cases hm : (State.acks (⟨st, true, false, (Seq.step sq (State.size nb fl)), a1, k0, k1⟩ : State.C) == 2)
      ·
        have HF : Hid ((State.talk (⟨st, false, false, a0, a1, k0, k1⟩ : State.C) (⟨0, false, true, true, rs, Seq.step sq (State.size nb fl), ak⟩ : State.W)).1 = (⟨3 + State.fins (⟨st, true, false, (Seq.step sq (State.size nb fl)), a1, k0, k1⟩ : State.C), true, false, (Seq.step sq (State.size nb fl)), a1, k0, k1⟩ : State.C)) := by show _ = _; have hm2 := ne_of_beq hm; unfold State.talk State.endNow State.ackNow State.finOf; simp [hm2]
        have hfb := fins_bd (⟨st, true, false, (Seq.step sq (State.size nb fl)), a1, k0, k1⟩ : State.C)
        go_wp2_with fail
        go_quiet ((go_at_call 21; exact dist_q _ _ _ _))
        go_wp2_with fail
        refine (ended_spec (⟨st, true, false, (Seq.step sq (State.size nb fl)), a1, k0, k1⟩ : State.C) _).mono ?_
        rintro e w2 ⟨rfl, hb2⟩
        have Y0 : Blk w2 w.heap.size 26 [.int .i64 st, .bool true, .bool false, .int .u32 (Seq.step sq (State.size nb fl)), .int .u32 a1, .bool k0, .bool k1] := Blk.later (by repeat (first | with_reducible exact X0 | with_reducible refine Blk.drewN ?_ _ | with_reducible refine Blk.drew ?_ | with_reducible refine Blk.puts (xs := [.int .i64 st, .bool true, .bool false, .int .u32 (Seq.step sq (State.size nb fl)), .int .u32 a1, .bool k0, .bool k1]) ?_ rfl)) hb2
        have Y2 : Blk w2 (w.heap.size + 1 + 1) 26 [.int .i64 0, .bool false, .bool false, .int .u32 0, .int .u32 0, .bool false, .bool false] := Blk.later (by repeat (first | with_reducible exact X2 | with_reducible refine Blk.drewN ?_ _ | with_reducible refine Blk.drew ?_ | with_reducible refine Blk.other ?_ (by simp <;> omega) _)) hb2
        have hbY : Below w.heap.size w w2 := Below.trans (by repeat (first | with_reducible exact hbx | with_reducible refine Below.drewN ?_ _ | with_reducible refine Below.drew ?_ | with_reducible refine Below.setCell ?_ (by simp) _)) (hb2.mono (by simp; omega))
        clear hb2 hbx X0 X1 X2 b0 b1 b2 b3 b4 b5 b6 z0 z1 z2 z3 z4 z5 z6 y0 y1 y2 y3 y4 y5 y6 x0 x1 x2 x3 x4 x5 x6
        obtain ⟨b0, b1, b2, b3, b4, b5, b6⟩ := cells7 Y0
        obtain ⟨z0, z1, z2, z3, z4, z5, z6⟩ := frozen7 Y0
        obtain ⟨y0, y1, y2, y3, y4, y5, y6⟩ := cells7 Y2
        obtain ⟨x0, x1, x2, x3, x4, x5, x6⟩ := frozen7 Y2
        go_wp2_with fail
        exact bodyPost_ret (v := .tuple #[.agg #[.int .i64 (3 + State.fins (⟨st, true, false, (Seq.step sq (State.size nb fl)), a1, k0, k1⟩ : State.C)), .bool true, .bool false, .int .u32 (Seq.step sq (State.size nb fl)), .int .u32 a1, .bool k0, .bool k1], .bool true]) (by simp [results, Try.results27, go_sem, y0, y1, y2, y3, y4, y5, y6]) rfl (talkR_mk HF.out (by repeat (first | with_reducible exact hbY | with_reducible refine Below.setCell ?_ (by simp; try omega) _)))
      ·
        have HF : Hid ((State.talk (⟨st, false, false, a0, a1, k0, k1⟩ : State.C) (⟨0, false, true, true, rs, Seq.step sq (State.size nb fl), ak⟩ : State.W)).1 = (⟨6, true, false, (Seq.step sq (State.size nb fl)), a1, k0, k1⟩ : State.C)) := by show _ = _; have hm2 := eq_of_beq' hm; unfold State.talk State.endNow State.ackNow State.finOf; simp [hm2]
        have hfb := fins_bd (⟨st, true, false, (Seq.step sq (State.size nb fl)), a1, k0, k1⟩ : State.C)
        go_wp2_with fail
        go_quiet ((go_at_call 21; exact dist_q _ _ _ _))
        go_wp2_with fail
        refine (ended_spec (⟨st, true, false, (Seq.step sq (State.size nb fl)), a1, k0, k1⟩ : State.C) _).mono ?_
        rintro e w2 ⟨rfl, hb2⟩
        have Y0 : Blk w2 w.heap.size 26 [.int .i64 st, .bool true, .bool false, .int .u32 (Seq.step sq (State.size nb fl)), .int .u32 a1, .bool k0, .bool k1] := Blk.later (by repeat (first | with_reducible exact X0 | with_reducible refine Blk.drewN ?_ _ | with_reducible refine Blk.drew ?_ | with_reducible refine Blk.puts (xs := [.int .i64 st, .bool true, .bool false, .int .u32 (Seq.step sq (State.size nb fl)), .int .u32 a1, .bool k0, .bool k1]) ?_ rfl)) hb2
        have Y2 : Blk w2 (w.heap.size + 1 + 1) 26 [.int .i64 0, .bool false, .bool false, .int .u32 0, .int .u32 0, .bool false, .bool false] := Blk.later (by repeat (first | with_reducible exact X2 | with_reducible refine Blk.drewN ?_ _ | with_reducible refine Blk.drew ?_ | with_reducible refine Blk.other ?_ (by simp <;> omega) _)) hb2
        have hbY : Below w.heap.size w w2 := Below.trans (by repeat (first | with_reducible exact hbx | with_reducible refine Below.drewN ?_ _ | with_reducible refine Below.drew ?_ | with_reducible refine Below.setCell ?_ (by simp) _)) (hb2.mono (by simp; omega))
        clear hb2 hbx X0 X1 X2 b0 b1 b2 b3 b4 b5 b6 z0 z1 z2 z3 z4 z5 z6 y0 y1 y2 y3 y4 y5 y6 x0 x1 x2 x3 x4 x5 x6
        obtain ⟨b0, b1, b2, b3, b4, b5, b6⟩ := cells7 Y0
        obtain ⟨z0, z1, z2, z3, z4, z5, z6⟩ := frozen7 Y0
        obtain ⟨y0, y1, y2, y3, y4, y5, y6⟩ := cells7 Y2
        obtain ⟨x0, x1, x2, x3, x4, x5, x6⟩ := frozen7 Y2
        go_wp2_with fail
        exact bodyPost_ret (v := .tuple #[.agg #[.int .i64 (6), .bool true, .bool false, .int .u32 (Seq.step sq (State.size nb fl)), .int .u32 a1, .bool k0, .bool k1], .bool true]) (by simp [results, Try.results27, go_sem, y0, y1, y2, y3, y4, y5, y6]) rfl (talkR_mk HF.out (by repeat (first | with_reducible exact hbY | with_reducible refine Below.setCell ?_ (by simp; try omega) _)))
    · cases hd : decide (0 ≤ Seq.dist a1 ak)
      · cases hm : (State.acks (⟨st, true, true, (Seq.step sq (State.size nb fl)), a1, k0, k1⟩ : State.C) == 2)
        ·
          have HF : Hid ((State.talk (⟨st, false, true, a0, a1, k0, k1⟩ : State.C) (⟨0, false, true, true, rs, Seq.step sq (State.size nb fl), ak⟩ : State.W)).1 = (⟨3 + State.fins (⟨st, true, true, (Seq.step sq (State.size nb fl)), a1, k0, k1⟩ : State.C), true, true, (Seq.step sq (State.size nb fl)), a1, k0, k1⟩ : State.C)) := by show _ = _; have hm2 := ne_of_beq hm; unfold State.talk State.endNow State.ackNow State.finOf; simp [hd, hm2]
          have hfb := fins_bd (⟨st, true, true, (Seq.step sq (State.size nb fl)), a1, k0, k1⟩ : State.C)
          go_wp2_with fail
          go_quiet ((go_at_call 21; exact dist_q _ _ _ _))
          go_wp2_with fail
          refine (ended_spec (⟨st, true, true, (Seq.step sq (State.size nb fl)), a1, k0, k1⟩ : State.C) _).mono ?_
          rintro e w2 ⟨rfl, hb2⟩
          have Y0 : Blk w2 w.heap.size 26 [.int .i64 st, .bool true, .bool true, .int .u32 (Seq.step sq (State.size nb fl)), .int .u32 a1, .bool k0, .bool k1] := Blk.later (by repeat (first | with_reducible exact X0 | with_reducible refine Blk.drewN ?_ _ | with_reducible refine Blk.drew ?_ | with_reducible refine Blk.puts (xs := [.int .i64 st, .bool true, .bool true, .int .u32 (Seq.step sq (State.size nb fl)), .int .u32 a1, .bool k0, .bool k1]) ?_ rfl)) hb2
          have Y2 : Blk w2 (w.heap.size + 1 + 1) 26 [.int .i64 0, .bool false, .bool false, .int .u32 0, .int .u32 0, .bool false, .bool false] := Blk.later (by repeat (first | with_reducible exact X2 | with_reducible refine Blk.drewN ?_ _ | with_reducible refine Blk.drew ?_ | with_reducible refine Blk.other ?_ (by simp <;> omega) _)) hb2
          have hbY : Below w.heap.size w w2 := Below.trans (by repeat (first | with_reducible exact hbx | with_reducible refine Below.drewN ?_ _ | with_reducible refine Below.drew ?_ | with_reducible refine Below.setCell ?_ (by simp) _)) (hb2.mono (by simp; omega))
          clear hb2 hbx X0 X1 X2 b0 b1 b2 b3 b4 b5 b6 z0 z1 z2 z3 z4 z5 z6 y0 y1 y2 y3 y4 y5 y6 x0 x1 x2 x3 x4 x5 x6
          obtain ⟨b0, b1, b2, b3, b4, b5, b6⟩ := cells7 Y0
          obtain ⟨z0, z1, z2, z3, z4, z5, z6⟩ := frozen7 Y0
          obtain ⟨y0, y1, y2, y3, y4, y5, y6⟩ := cells7 Y2
          obtain ⟨x0, x1, x2, x3, x4, x5, x6⟩ := frozen7 Y2
          go_wp2_with fail
          exact bodyPost_ret (v := .tuple #[.agg #[.int .i64 (3 + State.fins (⟨st, true, true, (Seq.step sq (State.size nb fl)), a1, k0, k1⟩ : State.C)), .bool true, .bool true, .int .u32 (Seq.step sq (State.size nb fl)), .int .u32 a1, .bool k0, .bool k1], .bool true]) (by simp [results, Try.results27, go_sem, y0, y1, y2, y3, y4, y5, y6]) rfl (talkR_mk HF.out (by repeat (first | with_reducible exact hbY | with_reducible refine Below.setCell ?_ (by simp; try omega) _)))
        ·
          have HF : Hid ((State.talk (⟨st, false, true, a0, a1, k0, k1⟩ : State.C) (⟨0, false, true, true, rs, Seq.step sq (State.size nb fl), ak⟩ : State.W)).1 = (⟨6, true, true, (Seq.step sq (State.size nb fl)), a1, k0, k1⟩ : State.C)) := by show _ = _; have hm2 := eq_of_beq' hm; unfold State.talk State.endNow State.ackNow State.finOf; simp [hd, hm2]
          have hfb := fins_bd (⟨st, true, true, (Seq.step sq (State.size nb fl)), a1, k0, k1⟩ : State.C)
          go_wp2_with fail
          go_quiet ((go_at_call 21; exact dist_q _ _ _ _))
          go_wp2_with fail
          refine (ended_spec (⟨st, true, true, (Seq.step sq (State.size nb fl)), a1, k0, k1⟩ : State.C) _).mono ?_
          rintro e w2 ⟨rfl, hb2⟩
          have Y0 : Blk w2 w.heap.size 26 [.int .i64 st, .bool true, .bool true, .int .u32 (Seq.step sq (State.size nb fl)), .int .u32 a1, .bool k0, .bool k1] := Blk.later (by repeat (first | with_reducible exact X0 | with_reducible refine Blk.drewN ?_ _ | with_reducible refine Blk.drew ?_ | with_reducible refine Blk.puts (xs := [.int .i64 st, .bool true, .bool true, .int .u32 (Seq.step sq (State.size nb fl)), .int .u32 a1, .bool k0, .bool k1]) ?_ rfl)) hb2
          have Y2 : Blk w2 (w.heap.size + 1 + 1) 26 [.int .i64 0, .bool false, .bool false, .int .u32 0, .int .u32 0, .bool false, .bool false] := Blk.later (by repeat (first | with_reducible exact X2 | with_reducible refine Blk.drewN ?_ _ | with_reducible refine Blk.drew ?_ | with_reducible refine Blk.other ?_ (by simp <;> omega) _)) hb2
          have hbY : Below w.heap.size w w2 := Below.trans (by repeat (first | with_reducible exact hbx | with_reducible refine Below.drewN ?_ _ | with_reducible refine Below.drew ?_ | with_reducible refine Below.setCell ?_ (by simp) _)) (hb2.mono (by simp; omega))
          clear hb2 hbx X0 X1 X2 b0 b1 b2 b3 b4 b5 b6 z0 z1 z2 z3 z4 z5 z6 y0 y1 y2 y3 y4 y5 y6 x0 x1 x2 x3 x4 x5 x6
          obtain ⟨b0, b1, b2, b3, b4, b5, b6⟩ := cells7 Y0
          obtain ⟨z0, z1, z2, z3, z4, z5, z6⟩ := frozen7 Y0
          obtain ⟨y0, y1, y2, y3, y4, y5, y6⟩ := cells7 Y2
          obtain ⟨x0, x1, x2, x3, x4, x5, x6⟩ := frozen7 Y2
          go_wp2_with fail
          exact bodyPost_ret (v := .tuple #[.agg #[.int .i64 (6), .bool true, .bool true, .int .u32 (Seq.step sq (State.size nb fl)), .int .u32 a1, .bool k0, .bool k1], .bool true]) (by simp [results, Try.results27, go_sem, y0, y1, y2, y3, y4, y5, y6]) rfl (talkR_mk HF.out (by repeat (first | with_reducible exact hbY | with_reducible refine Below.setCell ?_ (by simp; try omega) _)))
      · cases hm : (State.acks (⟨st, true, true, (Seq.step sq (State.size nb fl)), a1, k0, true⟩ : State.C) == 2)
        ·
          have HF : Hid ((State.talk (⟨st, false, true, a0, a1, k0, k1⟩ : State.C) (⟨0, false, true, true, rs, Seq.step sq (State.size nb fl), ak⟩ : State.W)).1 = (⟨3 + State.fins (⟨st, true, true, (Seq.step sq (State.size nb fl)), a1, k0, true⟩ : State.C), true, true, (Seq.step sq (State.size nb fl)), a1, k0, true⟩ : State.C)) := by show _ = _; have hm2 := ne_of_beq hm; unfold State.talk State.endNow State.ackNow State.finOf; simp [hd, hm2]
          have hfb := fins_bd (⟨st, true, true, (Seq.step sq (State.size nb fl)), a1, k0, true⟩ : State.C)
          go_wp2_with fail
          go_quiet ((go_at_call 21; exact dist_q _ _ _ _))
          go_wp2_with fail
          refine (ended_spec (⟨st, true, true, (Seq.step sq (State.size nb fl)), a1, k0, true⟩ : State.C) _).mono ?_
          rintro e w2 ⟨rfl, hb2⟩
          have Y0 : Blk w2 w.heap.size 26 [.int .i64 st, .bool true, .bool true, .int .u32 (Seq.step sq (State.size nb fl)), .int .u32 a1, .bool k0, .bool true] := Blk.later (by repeat (first | with_reducible exact X0 | with_reducible refine Blk.drewN ?_ _ | with_reducible refine Blk.drew ?_ | with_reducible refine Blk.puts (xs := [.int .i64 st, .bool true, .bool true, .int .u32 (Seq.step sq (State.size nb fl)), .int .u32 a1, .bool k0, .bool k1]) ?_ rfl)) hb2
          have Y2 : Blk w2 (w.heap.size + 1 + 1) 26 [.int .i64 0, .bool false, .bool false, .int .u32 0, .int .u32 0, .bool false, .bool false] := Blk.later (by repeat (first | with_reducible exact X2 | with_reducible refine Blk.drewN ?_ _ | with_reducible refine Blk.drew ?_ | with_reducible refine Blk.other ?_ (by simp <;> omega) _)) hb2
          have hbY : Below w.heap.size w w2 := Below.trans (by repeat (first | with_reducible exact hbx | with_reducible refine Below.drewN ?_ _ | with_reducible refine Below.drew ?_ | with_reducible refine Below.setCell ?_ (by simp) _)) (hb2.mono (by simp; omega))
          clear hb2 hbx X0 X1 X2 b0 b1 b2 b3 b4 b5 b6 z0 z1 z2 z3 z4 z5 z6 y0 y1 y2 y3 y4 y5 y6 x0 x1 x2 x3 x4 x5 x6
          obtain ⟨b0, b1, b2, b3, b4, b5, b6⟩ := cells7 Y0
          obtain ⟨z0, z1, z2, z3, z4, z5, z6⟩ := frozen7 Y0
          obtain ⟨y0, y1, y2, y3, y4, y5, y6⟩ := cells7 Y2
          obtain ⟨x0, x1, x2, x3, x4, x5, x6⟩ := frozen7 Y2
          go_wp2_with fail
          exact bodyPost_ret (v := .tuple #[.agg #[.int .i64 (3 + State.fins (⟨st, true, true, (Seq.step sq (State.size nb fl)), a1, k0, true⟩ : State.C)), .bool true, .bool true, .int .u32 (Seq.step sq (State.size nb fl)), .int .u32 a1, .bool k0, .bool true], .bool true]) (by simp [results, Try.results27, go_sem, y0, y1, y2, y3, y4, y5, y6]) rfl (talkR_mk HF.out (by repeat (first | with_reducible exact hbY | with_reducible refine Below.setCell ?_ (by simp; try omega) _)))
        ·
          have HF : Hid ((State.talk (⟨st, false, true, a0, a1, k0, k1⟩ : State.C) (⟨0, false, true, true, rs, Seq.step sq (State.size nb fl), ak⟩ : State.W)).1 = (⟨6, true, true, (Seq.step sq (State.size nb fl)), a1, k0, true⟩ : State.C)) := by show _ = _; have hm2 := eq_of_beq' hm; unfold State.talk State.endNow State.ackNow State.finOf; simp [hd, hm2]
          have hfb := fins_bd (⟨st, true, true, (Seq.step sq (State.size nb fl)), a1, k0, true⟩ : State.C)
          go_wp2_with fail
          go_quiet ((go_at_call 21; exact dist_q _ _ _ _))
          go_wp2_with fail
          refine (ended_spec (⟨st, true, true, (Seq.step sq (State.size nb fl)), a1, k0, true⟩ : State.C) _).mono ?_
          rintro e w2 ⟨rfl, hb2⟩
          have Y0 : Blk w2 w.heap.size 26 [.int .i64 st, .bool true, .bool true, .int .u32 (Seq.step sq (State.size nb fl)), .int .u32 a1, .bool k0, .bool true] := Blk.later (by repeat (first | with_reducible exact X0 | with_reducible refine Blk.drewN ?_ _ | with_reducible refine Blk.drew ?_ | with_reducible refine Blk.puts (xs := [.int .i64 st, .bool true, .bool true, .int .u32 (Seq.step sq (State.size nb fl)), .int .u32 a1, .bool k0, .bool k1]) ?_ rfl)) hb2
          have Y2 : Blk w2 (w.heap.size + 1 + 1) 26 [.int .i64 0, .bool false, .bool false, .int .u32 0, .int .u32 0, .bool false, .bool false] := Blk.later (by repeat (first | with_reducible exact X2 | with_reducible refine Blk.drewN ?_ _ | with_reducible refine Blk.drew ?_ | with_reducible refine Blk.other ?_ (by simp <;> omega) _)) hb2
          have hbY : Below w.heap.size w w2 := Below.trans (by repeat (first | with_reducible exact hbx | with_reducible refine Below.drewN ?_ _ | with_reducible refine Below.drew ?_ | with_reducible refine Below.setCell ?_ (by simp) _)) (hb2.mono (by simp; omega))
          clear hb2 hbx X0 X1 X2 b0 b1 b2 b3 b4 b5 b6 z0 z1 z2 z3 z4 z5 z6 y0 y1 y2 y3 y4 y5 y6 x0 x1 x2 x3 x4 x5 x6
          obtain ⟨b0, b1, b2, b3, b4, b5, b6⟩ := cells7 Y0
          obtain ⟨z0, z1, z2, z3, z4, z5, z6⟩ := frozen7 Y0
          obtain ⟨y0, y1, y2, y3, y4, y5, y6⟩ := cells7 Y2
          obtain ⟨x0, x1, x2, x3, x4, x5, x6⟩ := frozen7 Y2
          go_wp2_with fail
          exact bodyPost_ret (v := .tuple #[.agg #[.int .i64 (6), .bool true, .bool true, .int .u32 (Seq.step sq (State.size nb fl)), .int .u32 a1, .bool k0, .bool true], .bool true]) (by simp [results, Try.results27, go_sem, y0, y1, y2, y3, y4, y5, y6]) rfl (talkR_mk HF.out (by repeat (first | with_reducible exact hbY | with_reducible refine Below.setCell ?_ (by simp; try omega) _)))
set_option maxHeartbeats 4000000 in
theorem talk_0fe (st a0 a1 : Int) (f1 k0 k1 : Bool) (sp dp sq ak fl wi ur : Int) (Ao : Option Addr) (no co : Nat) (Ab : Option Addr) (nb cb : Nat) (rs : Bool) (w : World) (hn : nb ≤ 4294967295) :
    Calls Try.prog 27 #[.agg #[.int .i64 st, .bool true, .bool f1, .int .u32 a0, .int .u32 a1, .bool k0, .bool k1], .agg #[.int .i64 sp, .int .i64 dp, .int .u32 sq, .int .u32 ak, .int .i64 fl, .int .i64 wi, .int .i64 ur, .slice Ao no co, .slice Ab nb cb, .int .i64 0, .bool false, .bool true, .bool true, .bool rs]] w
      fun e w' => TalkR (State.talk (⟨st, true, f1, a0, a1, k0, k1⟩ : State.C) (⟨0, false, true, true, rs, Seq.step sq (State.size nb fl), ak⟩ : State.W)).1 true w e w' := by
  obtain ⟨W, hW⟩ : ∃ W, W = ((w.alloc (.cells #[.int .i64 st, .bool true, .bool f1, .int .u32 a0, .int .u32 a1, .bool k0, .bool k1] 26)).alloc (.cells #[.int .i64 sp, .int .i64 dp, .int .u32 sq, .int .u32 ak, .int .i64 fl, .int .i64 wi, .int .i64 ur, .slice Ao no co, .slice Ab nb cb, .int .i64 0, .bool false, .bool true, .bool true, .bool rs] 60)).alloc (.cells #[.int .i64 0, .bool false, .bool false, .int .u32 0, .int .u32 0, .bool false, .bool false] 26) := ⟨_, rfl⟩
  have hbW : Below w.heap.size w W := by rw [hW]; exact (((Below.refl _ _).alloc (Nat.le_refl _) _).alloc (by simp) _).alloc (by simp; omega) _
  have B0 : Blk W w.heap.size 26 [.int .i64 st, .bool true, .bool f1, .int .u32 a0, .int .u32 a1, .bool k0, .bool k1] := by rw [hW]; exact ((Blk.new _ _ [.int .i64 st, .bool true, .bool f1, .int .u32 a0, .int .u32 a1, .bool k0, .bool k1] _ rfl).alloc _).alloc _
  have B1 : Blk W (w.heap.size + 1) 60 [.int .i64 sp, .int .i64 dp, .int .u32 sq, .int .u32 ak, .int .i64 fl, .int .i64 wi, .int .i64 ur, .slice Ao no co, .slice Ab nb cb, .int .i64 0, .bool false, .bool true, .bool true, .bool rs] := by rw [hW]; exact (Blk.new _ _ [.int .i64 sp, .int .i64 dp, .int .u32 sq, .int .u32 ak, .int .i64 fl, .int .i64 wi, .int .i64 ur, .slice Ao no co, .slice Ab nb cb, .int .i64 0, .bool false, .bool true, .bool true, .bool rs] _ (by simp)).alloc _
  have B2 : Blk W (w.heap.size + 1 + 1) 26 [.int .i64 0, .bool false, .bool false, .int .u32 0, .int .u32 0, .bool false, .bool false] := by rw [hW]; exact (Blk.new _ _ [.int .i64 0, .bool false, .bool false, .int .u32 0, .int .u32 0, .bool false, .bool false] _ (by simp))
  have hWs : w.heap.size + 3 ≤ W.heap.size := by rw [hW]; simp
  have hg0 : w.heap.size < W.heap.size := by omega
  have hg1 : w.heap.size + 1 < W.heap.size := by omega
  obtain ⟨k0', k1', k2', k3', k4', k5', k6', k7', k8', k9'⟩ := cells10 B1
  obtain ⟨b0, b1, b2, b3, b4, b5, b6⟩ := cells7 B0
  obtain ⟨z0, z1, z2, z3, z4, z5, z6⟩ := frozen7 B0
  go_enter Try.func27, Try.ntmps27
  go_upto_if 26 with (fail)
  rw [← hW]
  clear hW
  go_cut [] (fun wx => Below w.heap.size w wx ∧ w.heap.size + 3 ≤ wx.heap.size ∧ Blk wx w.heap.size 26 [.int .i64 st, .bool true, .bool f1, .int .u32 a0, .int .u32 a1, .bool k0, .bool k1] ∧ Blk wx (w.heap.size + 1) 60 [.int .i64 sp, .int .i64 dp, .int .u32 sq, .int .u32 ak, .int .i64 fl, .int .i64 wi, .int .i64 ur, .slice Ao no co, .slice Ab nb cb, .int .i64 0, .bool false, .bool true, .bool true, .bool rs] ∧ Blk wx (w.heap.size + 1 + 1) 26 [.int .i64 0, .bool false, .bool false, .int .u32 0, .int .u32 0, .bool false, .bool false])
  case first =>
    go_wp2_with fail
    go_meet
    exact ⟨hbW, hWs, B0, B1, B2⟩
  case rest =>
    obtain ⟨hbx, hxs, X0, X1, X2⟩ := hcut
    clear B0 B1 B2 hbW hWs hg0 hg1 k0' k1' k2' k3' k4' k5' k6' k7' k8' k9' b0 b1 b2 b3 b4 b5 b6 z0 z1 z2 z3 z4 z5 z6
    have hg0 : w.heap.size < wc.heap.size := by omega
    have hg1 : w.heap.size + 1 < wc.heap.size := by omega
    have hg2 : w.heap.size + 1 + 1 < wc.heap.size := by omega
    obtain ⟨k0', k1', k2', k3', k4', k5', k6', k7', k8', k9'⟩ := cells10 X1
    obtain ⟨b0, b1, b2, b3, b4, b5, b6⟩ := cells7 X0
    obtain ⟨z0, z1, z2, z3, z4, z5, z6⟩ := frozen7 X0
    obtain ⟨y0, y1, y2, y3, y4, y5, y6⟩ := cells7 X2
    obtain ⟨x0, x1, x2, x3, x4, x5, x6⟩ := frozen7 X2
    clear k0' k1' k2' k4' k5' k6' k7' k8' 
    cases f1
    · cases hm : (State.acks (⟨st, true, false, a0, a1, k0, k1⟩ : State.C) == 2)
      ·
        have HF : Hid ((State.talk (⟨st, true, false, a0, a1, k0, k1⟩ : State.C) (⟨0, false, true, true, rs, Seq.step sq (State.size nb fl), ak⟩ : State.W)).1 = (⟨3 + State.fins (⟨st, true, false, a0, a1, k0, k1⟩ : State.C), true, false, a0, a1, k0, k1⟩ : State.C)) := by show _ = _; have hm2 := ne_of_beq hm; unfold State.talk State.endNow State.ackNow State.finOf; simp [hm2]
        have hfb := fins_bd (⟨st, true, false, a0, a1, k0, k1⟩ : State.C)
        go_wp2_with fail
        go_quiet ((go_at_call 21; exact dist_q _ _ _ _))
        go_wp2_with fail
        refine (ended_spec (⟨st, true, false, a0, a1, k0, k1⟩ : State.C) _).mono ?_
        rintro e w2 ⟨rfl, hb2⟩
        have Y0 : Blk w2 w.heap.size 26 [.int .i64 st, .bool true, .bool false, .int .u32 a0, .int .u32 a1, .bool k0, .bool k1] := Blk.later (by repeat (first | with_reducible exact X0 | with_reducible refine Blk.drewN ?_ _ | with_reducible refine Blk.drew ?_ | with_reducible refine Blk.puts (xs := [.int .i64 st, .bool true, .bool false, .int .u32 a0, .int .u32 a1, .bool k0, .bool k1]) ?_ rfl)) hb2
        have Y2 : Blk w2 (w.heap.size + 1 + 1) 26 [.int .i64 0, .bool false, .bool false, .int .u32 0, .int .u32 0, .bool false, .bool false] := Blk.later (by repeat (first | with_reducible exact X2 | with_reducible refine Blk.drewN ?_ _ | with_reducible refine Blk.drew ?_ | with_reducible refine Blk.other ?_ (by simp <;> omega) _)) hb2
        have hbY : Below w.heap.size w w2 := Below.trans (by repeat (first | with_reducible exact hbx | with_reducible refine Below.drewN ?_ _ | with_reducible refine Below.drew ?_ | with_reducible refine Below.setCell ?_ (by simp) _)) (hb2.mono (by simp; omega))
        clear hb2 hbx X0 X1 X2 b0 b1 b2 b3 b4 b5 b6 z0 z1 z2 z3 z4 z5 z6 y0 y1 y2 y3 y4 y5 y6 x0 x1 x2 x3 x4 x5 x6
        obtain ⟨b0, b1, b2, b3, b4, b5, b6⟩ := cells7 Y0
        obtain ⟨z0, z1, z2, z3, z4, z5, z6⟩ := frozen7 Y0
        obtain ⟨y0, y1, y2, y3, y4, y5, y6⟩ := cells7 Y2
        obtain ⟨x0, x1, x2, x3, x4, x5, x6⟩ := frozen7 Y2
        go_wp2_with fail
        exact bodyPost_ret (v := .tuple #[.agg #[.int .i64 (3 + State.fins (⟨st, true, false, a0, a1, k0, k1⟩ : State.C)), .bool true, .bool false, .int .u32 a0, .int .u32 a1, .bool k0, .bool k1], .bool true]) (by simp [results, Try.results27, go_sem, y0, y1, y2, y3, y4, y5, y6]) rfl (talkR_mk HF.out (by repeat (first | with_reducible exact hbY | with_reducible refine Below.setCell ?_ (by simp; try omega) _)))
      ·
        have HF : Hid ((State.talk (⟨st, true, false, a0, a1, k0, k1⟩ : State.C) (⟨0, false, true, true, rs, Seq.step sq (State.size nb fl), ak⟩ : State.W)).1 = (⟨6, true, false, a0, a1, k0, k1⟩ : State.C)) := by show _ = _; have hm2 := eq_of_beq' hm; unfold State.talk State.endNow State.ackNow State.finOf; simp [hm2]
        have hfb := fins_bd (⟨st, true, false, a0, a1, k0, k1⟩ : State.C)
        go_wp2_with fail
        go_quiet ((go_at_call 21; exact dist_q _ _ _ _))
        go_wp2_with fail
        refine (ended_spec (⟨st, true, false, a0, a1, k0, k1⟩ : State.C) _).mono ?_
        rintro e w2 ⟨rfl, hb2⟩
        have Y0 : Blk w2 w.heap.size 26 [.int .i64 st, .bool true, .bool false, .int .u32 a0, .int .u32 a1, .bool k0, .bool k1] := Blk.later (by repeat (first | with_reducible exact X0 | with_reducible refine Blk.drewN ?_ _ | with_reducible refine Blk.drew ?_ | with_reducible refine Blk.puts (xs := [.int .i64 st, .bool true, .bool false, .int .u32 a0, .int .u32 a1, .bool k0, .bool k1]) ?_ rfl)) hb2
        have Y2 : Blk w2 (w.heap.size + 1 + 1) 26 [.int .i64 0, .bool false, .bool false, .int .u32 0, .int .u32 0, .bool false, .bool false] := Blk.later (by repeat (first | with_reducible exact X2 | with_reducible refine Blk.drewN ?_ _ | with_reducible refine Blk.drew ?_ | with_reducible refine Blk.other ?_ (by simp <;> omega) _)) hb2
        have hbY : Below w.heap.size w w2 := Below.trans (by repeat (first | with_reducible exact hbx | with_reducible refine Below.drewN ?_ _ | with_reducible refine Below.drew ?_ | with_reducible refine Below.setCell ?_ (by simp) _)) (hb2.mono (by simp; omega))
        clear hb2 hbx X0 X1 X2 b0 b1 b2 b3 b4 b5 b6 z0 z1 z2 z3 z4 z5 z6 y0 y1 y2 y3 y4 y5 y6 x0 x1 x2 x3 x4 x5 x6
        obtain ⟨b0, b1, b2, b3, b4, b5, b6⟩ := cells7 Y0
        obtain ⟨z0, z1, z2, z3, z4, z5, z6⟩ := frozen7 Y0
        obtain ⟨y0, y1, y2, y3, y4, y5, y6⟩ := cells7 Y2
        obtain ⟨x0, x1, x2, x3, x4, x5, x6⟩ := frozen7 Y2
        go_wp2_with fail
        exact bodyPost_ret (v := .tuple #[.agg #[.int .i64 (6), .bool true, .bool false, .int .u32 a0, .int .u32 a1, .bool k0, .bool k1], .bool true]) (by simp [results, Try.results27, go_sem, y0, y1, y2, y3, y4, y5, y6]) rfl (talkR_mk HF.out (by repeat (first | with_reducible exact hbY | with_reducible refine Below.setCell ?_ (by simp; try omega) _)))
    · cases hd : decide (0 ≤ Seq.dist a1 ak)
      · cases hm : (State.acks (⟨st, true, true, a0, a1, k0, k1⟩ : State.C) == 2)
        ·
          have HF : Hid ((State.talk (⟨st, true, true, a0, a1, k0, k1⟩ : State.C) (⟨0, false, true, true, rs, Seq.step sq (State.size nb fl), ak⟩ : State.W)).1 = (⟨3 + State.fins (⟨st, true, true, a0, a1, k0, k1⟩ : State.C), true, true, a0, a1, k0, k1⟩ : State.C)) := by show _ = _; have hm2 := ne_of_beq hm; unfold State.talk State.endNow State.ackNow State.finOf; simp [hd, hm2]
          have hfb := fins_bd (⟨st, true, true, a0, a1, k0, k1⟩ : State.C)
          go_wp2_with fail
          go_quiet ((go_at_call 21; exact dist_q _ _ _ _))
          go_wp2_with fail
          refine (ended_spec (⟨st, true, true, a0, a1, k0, k1⟩ : State.C) _).mono ?_
          rintro e w2 ⟨rfl, hb2⟩
          have Y0 : Blk w2 w.heap.size 26 [.int .i64 st, .bool true, .bool true, .int .u32 a0, .int .u32 a1, .bool k0, .bool k1] := Blk.later (by repeat (first | with_reducible exact X0 | with_reducible refine Blk.drewN ?_ _ | with_reducible refine Blk.drew ?_ | with_reducible refine Blk.puts (xs := [.int .i64 st, .bool true, .bool true, .int .u32 a0, .int .u32 a1, .bool k0, .bool k1]) ?_ rfl)) hb2
          have Y2 : Blk w2 (w.heap.size + 1 + 1) 26 [.int .i64 0, .bool false, .bool false, .int .u32 0, .int .u32 0, .bool false, .bool false] := Blk.later (by repeat (first | with_reducible exact X2 | with_reducible refine Blk.drewN ?_ _ | with_reducible refine Blk.drew ?_ | with_reducible refine Blk.other ?_ (by simp <;> omega) _)) hb2
          have hbY : Below w.heap.size w w2 := Below.trans (by repeat (first | with_reducible exact hbx | with_reducible refine Below.drewN ?_ _ | with_reducible refine Below.drew ?_ | with_reducible refine Below.setCell ?_ (by simp) _)) (hb2.mono (by simp; omega))
          clear hb2 hbx X0 X1 X2 b0 b1 b2 b3 b4 b5 b6 z0 z1 z2 z3 z4 z5 z6 y0 y1 y2 y3 y4 y5 y6 x0 x1 x2 x3 x4 x5 x6
          obtain ⟨b0, b1, b2, b3, b4, b5, b6⟩ := cells7 Y0
          obtain ⟨z0, z1, z2, z3, z4, z5, z6⟩ := frozen7 Y0
          obtain ⟨y0, y1, y2, y3, y4, y5, y6⟩ := cells7 Y2
          obtain ⟨x0, x1, x2, x3, x4, x5, x6⟩ := frozen7 Y2
          go_wp2_with fail
          exact bodyPost_ret (v := .tuple #[.agg #[.int .i64 (3 + State.fins (⟨st, true, true, a0, a1, k0, k1⟩ : State.C)), .bool true, .bool true, .int .u32 a0, .int .u32 a1, .bool k0, .bool k1], .bool true]) (by simp [results, Try.results27, go_sem, y0, y1, y2, y3, y4, y5, y6]) rfl (talkR_mk HF.out (by repeat (first | with_reducible exact hbY | with_reducible refine Below.setCell ?_ (by simp; try omega) _)))
        ·
          have HF : Hid ((State.talk (⟨st, true, true, a0, a1, k0, k1⟩ : State.C) (⟨0, false, true, true, rs, Seq.step sq (State.size nb fl), ak⟩ : State.W)).1 = (⟨6, true, true, a0, a1, k0, k1⟩ : State.C)) := by show _ = _; have hm2 := eq_of_beq' hm; unfold State.talk State.endNow State.ackNow State.finOf; simp [hd, hm2]
          have hfb := fins_bd (⟨st, true, true, a0, a1, k0, k1⟩ : State.C)
          go_wp2_with fail
          go_quiet ((go_at_call 21; exact dist_q _ _ _ _))
          go_wp2_with fail
          refine (ended_spec (⟨st, true, true, a0, a1, k0, k1⟩ : State.C) _).mono ?_
          rintro e w2 ⟨rfl, hb2⟩
          have Y0 : Blk w2 w.heap.size 26 [.int .i64 st, .bool true, .bool true, .int .u32 a0, .int .u32 a1, .bool k0, .bool k1] := Blk.later (by repeat (first | with_reducible exact X0 | with_reducible refine Blk.drewN ?_ _ | with_reducible refine Blk.drew ?_ | with_reducible refine Blk.puts (xs := [.int .i64 st, .bool true, .bool true, .int .u32 a0, .int .u32 a1, .bool k0, .bool k1]) ?_ rfl)) hb2
          have Y2 : Blk w2 (w.heap.size + 1 + 1) 26 [.int .i64 0, .bool false, .bool false, .int .u32 0, .int .u32 0, .bool false, .bool false] := Blk.later (by repeat (first | with_reducible exact X2 | with_reducible refine Blk.drewN ?_ _ | with_reducible refine Blk.drew ?_ | with_reducible refine Blk.other ?_ (by simp <;> omega) _)) hb2
          have hbY : Below w.heap.size w w2 := Below.trans (by repeat (first | with_reducible exact hbx | with_reducible refine Below.drewN ?_ _ | with_reducible refine Below.drew ?_ | with_reducible refine Below.setCell ?_ (by simp) _)) (hb2.mono (by simp; omega))
          clear hb2 hbx X0 X1 X2 b0 b1 b2 b3 b4 b5 b6 z0 z1 z2 z3 z4 z5 z6 y0 y1 y2 y3 y4 y5 y6 x0 x1 x2 x3 x4 x5 x6
          obtain ⟨b0, b1, b2, b3, b4, b5, b6⟩ := cells7 Y0
          obtain ⟨z0, z1, z2, z3, z4, z5, z6⟩ := frozen7 Y0
          obtain ⟨y0, y1, y2, y3, y4, y5, y6⟩ := cells7 Y2
          obtain ⟨x0, x1, x2, x3, x4, x5, x6⟩ := frozen7 Y2
          go_wp2_with fail
          exact bodyPost_ret (v := .tuple #[.agg #[.int .i64 (6), .bool true, .bool true, .int .u32 a0, .int .u32 a1, .bool k0, .bool k1], .bool true]) (by simp [results, Try.results27, go_sem, y0, y1, y2, y3, y4, y5, y6]) rfl (talkR_mk HF.out (by repeat (first | with_reducible exact hbY | with_reducible refine Below.setCell ?_ (by simp; try omega) _)))
      · cases hm : (State.acks (⟨st, true, true, a0, a1, k0, true⟩ : State.C) == 2)
        ·
          have HF : Hid ((State.talk (⟨st, true, true, a0, a1, k0, k1⟩ : State.C) (⟨0, false, true, true, rs, Seq.step sq (State.size nb fl), ak⟩ : State.W)).1 = (⟨3 + State.fins (⟨st, true, true, a0, a1, k0, true⟩ : State.C), true, true, a0, a1, k0, true⟩ : State.C)) := by show _ = _; have hm2 := ne_of_beq hm; unfold State.talk State.endNow State.ackNow State.finOf; simp [hd, hm2]
          have hfb := fins_bd (⟨st, true, true, a0, a1, k0, true⟩ : State.C)
          go_wp2_with fail
          go_quiet ((go_at_call 21; exact dist_q _ _ _ _))
          go_wp2_with fail
          refine (ended_spec (⟨st, true, true, a0, a1, k0, true⟩ : State.C) _).mono ?_
          rintro e w2 ⟨rfl, hb2⟩
          have Y0 : Blk w2 w.heap.size 26 [.int .i64 st, .bool true, .bool true, .int .u32 a0, .int .u32 a1, .bool k0, .bool true] := Blk.later (by repeat (first | with_reducible exact X0 | with_reducible refine Blk.drewN ?_ _ | with_reducible refine Blk.drew ?_ | with_reducible refine Blk.puts (xs := [.int .i64 st, .bool true, .bool true, .int .u32 a0, .int .u32 a1, .bool k0, .bool k1]) ?_ rfl)) hb2
          have Y2 : Blk w2 (w.heap.size + 1 + 1) 26 [.int .i64 0, .bool false, .bool false, .int .u32 0, .int .u32 0, .bool false, .bool false] := Blk.later (by repeat (first | with_reducible exact X2 | with_reducible refine Blk.drewN ?_ _ | with_reducible refine Blk.drew ?_ | with_reducible refine Blk.other ?_ (by simp <;> omega) _)) hb2
          have hbY : Below w.heap.size w w2 := Below.trans (by repeat (first | with_reducible exact hbx | with_reducible refine Below.drewN ?_ _ | with_reducible refine Below.drew ?_ | with_reducible refine Below.setCell ?_ (by simp) _)) (hb2.mono (by simp; omega))
          clear hb2 hbx X0 X1 X2 b0 b1 b2 b3 b4 b5 b6 z0 z1 z2 z3 z4 z5 z6 y0 y1 y2 y3 y4 y5 y6 x0 x1 x2 x3 x4 x5 x6
          obtain ⟨b0, b1, b2, b3, b4, b5, b6⟩ := cells7 Y0
          obtain ⟨z0, z1, z2, z3, z4, z5, z6⟩ := frozen7 Y0
          obtain ⟨y0, y1, y2, y3, y4, y5, y6⟩ := cells7 Y2
          obtain ⟨x0, x1, x2, x3, x4, x5, x6⟩ := frozen7 Y2
          go_wp2_with fail
          exact bodyPost_ret (v := .tuple #[.agg #[.int .i64 (3 + State.fins (⟨st, true, true, a0, a1, k0, true⟩ : State.C)), .bool true, .bool true, .int .u32 a0, .int .u32 a1, .bool k0, .bool true], .bool true]) (by simp [results, Try.results27, go_sem, y0, y1, y2, y3, y4, y5, y6]) rfl (talkR_mk HF.out (by repeat (first | with_reducible exact hbY | with_reducible refine Below.setCell ?_ (by simp; try omega) _)))
        ·
          have HF : Hid ((State.talk (⟨st, true, true, a0, a1, k0, k1⟩ : State.C) (⟨0, false, true, true, rs, Seq.step sq (State.size nb fl), ak⟩ : State.W)).1 = (⟨6, true, true, a0, a1, k0, true⟩ : State.C)) := by show _ = _; have hm2 := eq_of_beq' hm; unfold State.talk State.endNow State.ackNow State.finOf; simp [hd, hm2]
          have hfb := fins_bd (⟨st, true, true, a0, a1, k0, true⟩ : State.C)
          go_wp2_with fail
          go_quiet ((go_at_call 21; exact dist_q _ _ _ _))
          go_wp2_with fail
          refine (ended_spec (⟨st, true, true, a0, a1, k0, true⟩ : State.C) _).mono ?_
          rintro e w2 ⟨rfl, hb2⟩
          have Y0 : Blk w2 w.heap.size 26 [.int .i64 st, .bool true, .bool true, .int .u32 a0, .int .u32 a1, .bool k0, .bool true] := Blk.later (by repeat (first | with_reducible exact X0 | with_reducible refine Blk.drewN ?_ _ | with_reducible refine Blk.drew ?_ | with_reducible refine Blk.puts (xs := [.int .i64 st, .bool true, .bool true, .int .u32 a0, .int .u32 a1, .bool k0, .bool k1]) ?_ rfl)) hb2
          have Y2 : Blk w2 (w.heap.size + 1 + 1) 26 [.int .i64 0, .bool false, .bool false, .int .u32 0, .int .u32 0, .bool false, .bool false] := Blk.later (by repeat (first | with_reducible exact X2 | with_reducible refine Blk.drewN ?_ _ | with_reducible refine Blk.drew ?_ | with_reducible refine Blk.other ?_ (by simp <;> omega) _)) hb2
          have hbY : Below w.heap.size w w2 := Below.trans (by repeat (first | with_reducible exact hbx | with_reducible refine Below.drewN ?_ _ | with_reducible refine Below.drew ?_ | with_reducible refine Below.setCell ?_ (by simp) _)) (hb2.mono (by simp; omega))
          clear hb2 hbx X0 X1 X2 b0 b1 b2 b3 b4 b5 b6 z0 z1 z2 z3 z4 z5 z6 y0 y1 y2 y3 y4 y5 y6 x0 x1 x2 x3 x4 x5 x6
          obtain ⟨b0, b1, b2, b3, b4, b5, b6⟩ := cells7 Y0
          obtain ⟨z0, z1, z2, z3, z4, z5, z6⟩ := frozen7 Y0
          obtain ⟨y0, y1, y2, y3, y4, y5, y6⟩ := cells7 Y2
          obtain ⟨x0, x1, x2, x3, x4, x5, x6⟩ := frozen7 Y2
          go_wp2_with fail
          exact bodyPost_ret (v := .tuple #[.agg #[.int .i64 (6), .bool true, .bool true, .int .u32 a0, .int .u32 a1, .bool k0, .bool true], .bool true]) (by simp [results, Try.results27, go_sem, y0, y1, y2, y3, y4, y5, y6]) rfl (talkR_mk HF.out (by repeat (first | with_reducible exact hbY | with_reducible refine Below.setCell ?_ (by simp; try omega) _)))
end Go.Proofs.Ytliibpajgdncpaa
