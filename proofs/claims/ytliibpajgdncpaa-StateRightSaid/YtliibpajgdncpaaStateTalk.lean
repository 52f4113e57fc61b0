/- The contract of state.talk, and the walk of state.heard. -/
import Derived.Test.YtliibpajgdncpaaStateTalk0
import Derived.Test.YtliibpajgdncpaaStateTalk1
namespace Go.Proofs.Ytliibpajgdncpaa
open Go.RowKit
set_option linter.unusedVariables false
theorem TalkR.out {d : State.C} {ok : Bool} {w : World} {e : Ending} {w' : World} (h : TalkR d ok w e w') :
    e = .returned (.tuple #[.agg #[.int .i64 d.st, .bool d.f0, .bool d.f1, .int .u32 d.a0, .int .u32 d.a1, .bool d.k0, .bool d.k1], .bool ok]) ∧ Below w.heap.size w w' := h
theorem talkR_mk' {d d' : State.C} {ok ok' : Bool} {w w' : World} (h : (d, ok) = (d', ok')) (hb : Below w.heap.size w w') : TalkR d ok w (.returned (.tuple #[.agg #[.int .i64 d'.st, .bool d'.f0, .bool d'.f1, .int .u32 d'.a0, .int .u32 d'.a1, .bool d'.k0, .bool d'.k1], .bool ok'])) w' := by
  injection h with h1 h2
  subst h1; subst h2
  exact ⟨rfl, hb⟩
set_option maxHeartbeats 2000000 in
theorem talk_no (c : State.C) (sp dp sq ak fl wi ur : Int) (Ao : Option Addr) (no co : Nat) (Ab : Option Addr) (nb cb : Nat) (sd : Int) (sy ac fi rs : Bool) (w : World) (h : (sy || !ac) = true) (W0 : State.W) (h1 : W0.syn = sy) (h2 : W0.ack = ac) :
    Calls Try.prog 27 #[.agg #[.int .i64 c.st, .bool c.f0, .bool c.f1, .int .u32 c.a0, .int .u32 c.a1, .bool c.k0, .bool c.k1], .agg #[.int .i64 sp, .int .i64 dp, .int .u32 sq, .int .u32 ak, .int .i64 fl, .int .i64 wi, .int .i64 ur, .slice Ao no co, .slice Ab nb cb, .int .i64 sd, .bool sy, .bool ac, .bool fi, .bool rs]] w (TalkR (State.talk c W0).1 (State.talk c W0).2 w) := by
  have HT : Hid (State.talk c W0 = (c, false)) := by
    show _ = _
    unfold State.talk
    rw [h1, h2, h]; rfl
  clear h1 h2
  obtain ⟨st, f0, f1, a0, a1, k0, k1⟩ := c
  cases sy <;> cases ac
  case false.true => simp at h
  all_goals
    clear h
    go_enter Try.func27, Try.ntmps27
    go_wp2_with fail
    exact bodyPost_ret (v := .tuple #[.agg #[.int .i64 st, .bool f0, .bool f1, .int .u32 a0, .int .u32 a1, .bool k0, .bool k1], .bool false]) (by simp [results, Try.results27, go_sem]) rfl (talkR_mk' (d' := ⟨st, f0, f1, a0, a1, k0, k1⟩) HT.out (by repeat (first | with_reducible exact Below.refl _ _ | with_reducible refine Below.setCell ?_ (by simp <;> omega) _ | with_reducible refine Below.alloc ?_ (by simp <;> omega) _)))
theorem talk_two (c : State.C) (W0 : State.W) (h1 : W0.syn = false) (h2 : W0.ack = true) : (State.talk c W0).2 = true := by
  unfold State.talk; rw [h1, h2]; rfl
theorem talk_spec (c : State.C) (sp dp sq ak fl wi ur : Int) (Ao : Option Addr) (no co : Nat) (Ab : Option Addr) (nb cb : Nat) (sd : Int) (sy ac fi rs : Bool) (w : World) (hn : nb ≤ 4294967295) (hsd : sd = 0 ∨ sd = 1)
    (W0 : State.W) (hW : W0 = ⟨sd, sy, ac, fi, rs, Seq.step sq (State.size nb fl), ak⟩) :
    Calls Try.prog 27 #[.agg #[.int .i64 c.st, .bool c.f0, .bool c.f1, .int .u32 c.a0, .int .u32 c.a1, .bool c.k0, .bool c.k1], .agg #[.int .i64 sp, .int .i64 dp, .int .u32 sq, .int .u32 ak, .int .i64 fl, .int .i64 wi, .int .i64 ur, .slice Ao no co, .slice Ab nb cb, .int .i64 sd, .bool sy, .bool ac, .bool fi, .bool rs]] w (TalkR (State.talk c W0).1 (State.talk c W0).2 w) := by
  subst hW
  cases h : (sy || !ac)
  · cases sy
    · cases ac
      · simp at h
      · rw [talk_two _ _ rfl rfl]
        obtain ⟨st, f0, f1, a0, a1, k0, k1⟩ := c
        rcases hsd with rfl | rfl
        · cases fi <;> cases f0
          · exact talk_0no _ _ _ _ _ _ _ _ _ _ _ _ _ _ _ _ _ _ _ _ _ hn
          · exact talk_0ne _ _ _ _ _ _ _ _ _ _ _ _ _ _ _ _ _ _ _ _ _ hn
          · exact talk_0fo _ _ _ _ _ _ _ _ _ _ _ _ _ _ _ _ _ _ _ _ _ hn
          · exact talk_0fe _ _ _ _ _ _ _ _ _ _ _ _ _ _ _ _ _ _ _ _ _ hn
        · cases fi <;> cases f1
          · exact talk_1no _ _ _ _ _ _ _ _ _ _ _ _ _ _ _ _ _ _ _ _ _ hn
          · exact talk_1ne _ _ _ _ _ _ _ _ _ _ _ _ _ _ _ _ _ _ _ _ _ hn
          · exact talk_1fo _ _ _ _ _ _ _ _ _ _ _ _ _ _ _ _ _ _ _ _ _ hn
          · exact talk_1fe _ _ _ _ _ _ _ _ _ _ _ _ _ _ _ _ _ _ _ _ _ hn
    · simp at h
  · exact talk_no c sp dp sq ak fl wi ur Ao no co Ab nb cb sd sy ac fi rs w h _ rfl rfl
theorem cell14 {w : World} {g : Nat} {T : TypeId} {x0 x1 x2 x3 x4 x5 x6 x7 x8 x9 y0 y1 y2 y3 : Value} (h : Blk w g T [x0, x1, x2, x3, x4, x5, x6, x7, x8, x9, y0, y1, y2, y3]) :
    w.cell? ⟨g, 9, none⟩ = some x9 ∧ w.cell? ⟨g, 10, none⟩ = some y0 ∧ w.cell? ⟨g, 11, none⟩ = some y1 ∧ w.cell? ⟨g, 12, none⟩ = some y2 ∧ w.cell? ⟨g, 13, none⟩ = some y3 :=
  ⟨h.cell rfl, h.cell rfl, h.cell rfl, h.cell rfl, h.cell rfl⟩
set_option maxHeartbeats 2000000 in
theorem heard_syn (c : State.C) (sp dp sq ak fl wi ur : Int) (Ao : Option Addr) (no co : Nat) (Ab : Option Addr) (nb cb : Nat) (sd : Int) (ac fi rs : Bool) (w : World)
    (W0 : State.W) (hW0 : W0 = ⟨sd, true, ac, fi, rs, Seq.step sq (State.size nb fl), ak⟩) :
    Calls Try.prog 26 #[.agg #[.int .i64 c.st, .bool c.f0, .bool c.f1, .int .u32 c.a0, .int .u32 c.a1, .bool c.k0, .bool c.k1], .agg #[.int .i64 sp, .int .i64 dp, .int .u32 sq, .int .u32 ak, .int .i64 fl, .int .i64 wi, .int .i64 ur, .slice Ao no co, .slice Ab nb cb, .int .i64 sd, .bool true, .bool ac, .bool fi, .bool rs]] w (TalkR (State.heard c W0).1 (State.heard c W0).2 w) := by
  have HT : Hid (State.heard c W0 = (c, !fi)) := by
    show _ = _
    subst hW0
    rfl
  clear hW0
  obtain ⟨st, f0, f1, a0, a1, k0, k1⟩ := c
  obtain ⟨W, hW⟩ : ∃ W, W = ((w.alloc (.cells #[.int .i64 st, .bool f0, .bool f1, .int .u32 a0, .int .u32 a1, .bool k0, .bool k1] 26)).alloc (.cells #[.int .i64 sp, .int .i64 dp, .int .u32 sq, .int .u32 ak, .int .i64 fl, .int .i64 wi, .int .i64 ur, .slice Ao no co, .slice Ab nb cb, .int .i64 sd, .bool true, .bool ac, .bool fi, .bool rs] 60)).alloc (.cells #[.int .i64 0, .bool false, .bool false, .int .u32 0, .int .u32 0, .bool false, .bool false] 26) := ⟨_, rfl⟩; have hbW : Below w.heap.size w W := (by rw [hW]; exact (((Below.refl _ _).alloc (Nat.le_refl _) _).alloc (by simp) _).alloc (by simp; omega) _); have B0 : Blk W w.heap.size 26 [.int .i64 st, .bool f0, .bool f1, .int .u32 a0, .int .u32 a1, .bool k0, .bool k1] := (by rw [hW]; exact ((Blk.new _ _ [.int .i64 st, .bool f0, .bool f1, .int .u32 a0, .int .u32 a1, .bool k0, .bool k1] _ rfl).alloc _).alloc _); have B1 : Blk W (w.heap.size + 1) 60 [.int .i64 sp, .int .i64 dp, .int .u32 sq, .int .u32 ak, .int .i64 fl, .int .i64 wi, .int .i64 ur, .slice Ao no co, .slice Ab nb cb, .int .i64 sd, .bool true, .bool ac, .bool fi, .bool rs] := (by rw [hW]; exact (Blk.new _ _ [.int .i64 sp, .int .i64 dp, .int .u32 sq, .int .u32 ak, .int .i64 fl, .int .i64 wi, .int .i64 ur, .slice Ao no co, .slice Ab nb cb, .int .i64 sd, .bool true, .bool ac, .bool fi, .bool rs] _ (by simp)).alloc _); have B2 : Blk W (w.heap.size + 1 + 1) 26 [.int .i64 0, .bool false, .bool false, .int .u32 0, .int .u32 0, .bool false, .bool false] := (by rw [hW]; exact (Blk.new _ _ [.int .i64 0, .bool false, .bool false, .int .u32 0, .int .u32 0, .bool false, .bool false] _ (by simp))); have hWs : w.heap.size + 3 ≤ W.heap.size := (by rw [hW]; simp); have hg0 : w.heap.size < W.heap.size := (by omega); have hg1 : w.heap.size + 1 < W.heap.size := (by omega); have hg2 : w.heap.size + 1 + 1 < W.heap.size := (by omega); obtain ⟨k0', k1', k2', k3', k4', k5', k6', k7', k8', k9'⟩ := cells10 B1; obtain ⟨_, q10, q11, q12, q13⟩ := cell14 B1; obtain ⟨b0, b1, b2, b3, b4, b5, b6⟩ := cells7 B0; obtain ⟨y0, y1, y2, y3, y4, y5, y6⟩ := cells7 B2; obtain ⟨x0, x1, x2, x3, x4, x5, x6⟩ := frozen7 B2
  go_enter Try.func26, Try.ntmps26
  go_wp2_with fail
  rw [← hW]
  clear hW
  go_region_held3 (fun w' => w'.cell? ⟨w.heap.size + 1, 12, none⟩ = some (.bool fi) ∧ w'.cell? ⟨w.heap.size, 0, none⟩ = some (.int .i64 st) ∧ w'.cell? ⟨w.heap.size, 1, none⟩ = some (.bool f0) ∧ w'.cell? ⟨w.heap.size, 2, none⟩ = some (.bool f1) ∧ w'.cell? ⟨w.heap.size, 3, none⟩ = some (.int .u32 a0) ∧ w'.cell? ⟨w.heap.size, 4, none⟩ = some (.int .u32 a1) ∧ w'.cell? ⟨w.heap.size, 5, none⟩ = some (.bool k0) ∧ w'.cell? ⟨w.heap.size, 6, none⟩ = some (.bool k1)) (exact And.intro (Blk.cell (T := 60) (xs := [.int .i64 sp, .int .i64 dp, .int .u32 sq, .int .u32 ak, .int .i64 fl, .int .i64 wi, .int .i64 ur, .slice Ao no co, .slice Ab nb cb, .int .i64 sd, .bool true, .bool ac, .bool fi, .bool rs]) (by repeat (first | with_reducible exact B1 | with_reducible refine Blk.drew ?_ | with_reducible refine Blk.alloc ?_ _ | with_reducible refine Blk.other ?_ (by simp <;> omega) _)) rfl) (cells7 (T := 26) (by repeat (first | with_reducible exact B0 | with_reducible refine Blk.drew ?_ | with_reducible refine Blk.alloc ?_ _ | with_reducible refine Blk.other ?_ (by simp <;> omega) _)))) (fail)
  go_wp2_with fail
  exact bodyPost_ret (v := .tuple #[.agg #[.int .i64 st, .bool f0, .bool f1, .int .u32 a0, .int .u32 a1, .bool k0, .bool k1], .bool _]) (by simp [results, Try.results26, go_sem, y0, y1, y2, y3, y4, y5, y6]) rfl (talkR_mk' (d' := ⟨st, f0, f1, a0, a1, k0, k1⟩) HT.out (by repeat (first | with_reducible exact hbW | with_reducible refine Below.drewN ?_ _ | with_reducible refine Below.drew ?_ | with_reducible refine Below.setCell ?_ (by simp <;> omega) _ | with_reducible refine Below.alloc ?_ (by simp <;> omega) _)))
set_option maxHeartbeats 2000000 in
theorem heard_talk (c : State.C) (sp dp sq ak fl wi ur : Int) (Ao : Option Addr) (no co : Nat) (Ab : Option Addr) (nb cb : Nat) (fi rs : Bool) (w : World) (hn : nb ≤ 4294967295)
    (W0 : State.W) (hW0 : W0 = ⟨0, false, true, fi, rs, Seq.step sq (State.size nb fl), ak⟩) :
    Calls Try.prog 26 #[.agg #[.int .i64 c.st, .bool c.f0, .bool c.f1, .int .u32 c.a0, .int .u32 c.a1, .bool c.k0, .bool c.k1], .agg #[.int .i64 sp, .int .i64 dp, .int .u32 sq, .int .u32 ak, .int .i64 fl, .int .i64 wi, .int .i64 ur, .slice Ao no co, .slice Ab nb cb, .int .i64 0, .bool false, .bool true, .bool fi, .bool rs]] w (TalkR (State.heard c W0).1 (State.heard c W0).2 w) := by
  have HT : Hid (State.heard c W0 = State.talk c W0) := by
    show _ = _
    subst hW0
    rfl
  have HTK := fun w => talk_spec c sp dp sq ak fl wi ur Ao no co Ab nb cb 0 false true fi rs w hn (Or.inl rfl) W0 hW0
  rw [HT.out]
  generalize State.talk c W0 = r at HTK ⊢
  clear hW0 HT
  obtain ⟨st, f0, f1, a0, a1, k0, k1⟩ := c
  obtain ⟨W, hW⟩ : ∃ W, W = ((w.alloc (.cells #[.int .i64 st, .bool f0, .bool f1, .int .u32 a0, .int .u32 a1, .bool k0, .bool k1] 26)).alloc (.cells #[.int .i64 sp, .int .i64 dp, .int .u32 sq, .int .u32 ak, .int .i64 fl, .int .i64 wi, .int .i64 ur, .slice Ao no co, .slice Ab nb cb, .int .i64 0, .bool false, .bool true, .bool fi, .bool rs] 60)).alloc (.cells #[.int .i64 0, .bool false, .bool false, .int .u32 0, .int .u32 0, .bool false, .bool false] 26) := ⟨_, rfl⟩; have hbW : Below w.heap.size w W := (by rw [hW]; exact (((Below.refl _ _).alloc (Nat.le_refl _) _).alloc (by simp) _).alloc (by simp; omega) _); have B0 : Blk W w.heap.size 26 [.int .i64 st, .bool f0, .bool f1, .int .u32 a0, .int .u32 a1, .bool k0, .bool k1] := (by rw [hW]; exact ((Blk.new _ _ [.int .i64 st, .bool f0, .bool f1, .int .u32 a0, .int .u32 a1, .bool k0, .bool k1] _ rfl).alloc _).alloc _); have B1 : Blk W (w.heap.size + 1) 60 [.int .i64 sp, .int .i64 dp, .int .u32 sq, .int .u32 ak, .int .i64 fl, .int .i64 wi, .int .i64 ur, .slice Ao no co, .slice Ab nb cb, .int .i64 0, .bool false, .bool true, .bool fi, .bool rs] := (by rw [hW]; exact (Blk.new _ _ [.int .i64 sp, .int .i64 dp, .int .u32 sq, .int .u32 ak, .int .i64 fl, .int .i64 wi, .int .i64 ur, .slice Ao no co, .slice Ab nb cb, .int .i64 0, .bool false, .bool true, .bool fi, .bool rs] _ (by simp)).alloc _); have B2 : Blk W (w.heap.size + 1 + 1) 26 [.int .i64 0, .bool false, .bool false, .int .u32 0, .int .u32 0, .bool false, .bool false] := (by rw [hW]; exact (Blk.new _ _ [.int .i64 0, .bool false, .bool false, .int .u32 0, .int .u32 0, .bool false, .bool false] _ (by simp))); have hWs : w.heap.size + 3 ≤ W.heap.size := (by rw [hW]; simp); have hg0 : w.heap.size < W.heap.size := (by omega); have hg1 : w.heap.size + 1 < W.heap.size := (by omega); have hg2 : w.heap.size + 1 + 1 < W.heap.size := (by omega); obtain ⟨k0', k1', k2', k3', k4', k5', k6', k7', k8', k9'⟩ := cells10 B1; obtain ⟨_, q10, q11, q12, q13⟩ := cell14 B1; obtain ⟨b0, b1, b2, b3, b4, b5, b6⟩ := cells7 B0; obtain ⟨y0, y1, y2, y3, y4, y5, y6⟩ := cells7 B2; obtain ⟨x0, x1, x2, x3, x4, x5, x6⟩ := frozen7 B2
  obtain ⟨r, ok⟩ := r
  obtain ⟨rt, r0, r1, s0, s1, t0, t1⟩ := r
  have HTK' := HTK W
  clear HTK
  go_enter Try.func26, Try.ntmps26
  go_wp2_with fail
  rw [← hW]
  clear hW
  refine HTK'.mono ?_
  intro e w2 htk
  obtain ⟨rfl, hb2⟩ := htk.out
  have Y2 := B2.later hb2
  have hbY := bel_then hbW hb2
  clear B2 b0 b1 b2 b3 b4 b5 b6 y0 y1 y2 y3 y4 y5 y6 x0 x1 x2 x3 x4 x5 x6 htk HTK'
  obtain ⟨y0, y1, y2, y3, y4, y5, y6⟩ := cells7 Y2
  obtain ⟨x0, x1, x2, x3, x4, x5, x6⟩ := frozen7 Y2
  go_wp2_with fail
  exact bodyPost_ret (v := .tuple #[.agg #[.int .i64 rt, .bool r0, .bool r1, .int .u32 s0, .int .u32 s1, .bool t0, .bool t1], .bool ok]) (by simp [results, Try.results26, go_sem, y0, y1, y2, y3, y4, y5, y6]) rfl ⟨rfl, (by repeat (first | with_reducible exact hbY | with_reducible refine Below.setCell ?_ (by simp <;> omega) _))⟩
set_option maxHeartbeats 2000000 in
theorem heard_one (c : State.C) (sp dp sq ak fl wi ur : Int) (Ao : Option Addr) (no co : Nat) (Ab : Option Addr) (nb cb : Nat) (fi rs : Bool) (w : World) (hn : nb ≤ 4294967295)
    (W0 : State.W) (hW0 : W0 = ⟨1, false, true, fi, rs, Seq.step sq (State.size nb fl), ak⟩) :
    Calls Try.prog 26 #[.agg #[.int .i64 c.st, .bool c.f0, .bool c.f1, .int .u32 c.a0, .int .u32 c.a1, .bool c.k0, .bool c.k1], .agg #[.int .i64 sp, .int .i64 dp, .int .u32 sq, .int .u32 ak, .int .i64 fl, .int .i64 wi, .int .i64 ur, .slice Ao no co, .slice Ab nb cb, .int .i64 1, .bool false, .bool true, .bool fi, .bool rs]] w (TalkR (State.heard c W0).1 (State.heard c W0).2 w) := by
  have HT : Hid (State.heard c W0 = (c, !fi)) := by
    show _ = _
    subst hW0
    rfl
  clear hW0
  obtain ⟨st, f0, f1, a0, a1, k0, k1⟩ := c
  obtain ⟨W, hW⟩ : ∃ W, W = ((w.alloc (.cells #[.int .i64 st, .bool f0, .bool f1, .int .u32 a0, .int .u32 a1, .bool k0, .bool k1] 26)).alloc (.cells #[.int .i64 sp, .int .i64 dp, .int .u32 sq, .int .u32 ak, .int .i64 fl, .int .i64 wi, .int .i64 ur, .slice Ao no co, .slice Ab nb cb, .int .i64 1, .bool false, .bool true, .bool fi, .bool rs] 60)).alloc (.cells #[.int .i64 0, .bool false, .bool false, .int .u32 0, .int .u32 0, .bool false, .bool false] 26) := ⟨_, rfl⟩; have hbW : Below w.heap.size w W := (by rw [hW]; exact (((Below.refl _ _).alloc (Nat.le_refl _) _).alloc (by simp) _).alloc (by simp; omega) _); have B0 : Blk W w.heap.size 26 [.int .i64 st, .bool f0, .bool f1, .int .u32 a0, .int .u32 a1, .bool k0, .bool k1] := (by rw [hW]; exact ((Blk.new _ _ [.int .i64 st, .bool f0, .bool f1, .int .u32 a0, .int .u32 a1, .bool k0, .bool k1] _ rfl).alloc _).alloc _); have B1 : Blk W (w.heap.size + 1) 60 [.int .i64 sp, .int .i64 dp, .int .u32 sq, .int .u32 ak, .int .i64 fl, .int .i64 wi, .int .i64 ur, .slice Ao no co, .slice Ab nb cb, .int .i64 1, .bool false, .bool true, .bool fi, .bool rs] := (by rw [hW]; exact (Blk.new _ _ [.int .i64 sp, .int .i64 dp, .int .u32 sq, .int .u32 ak, .int .i64 fl, .int .i64 wi, .int .i64 ur, .slice Ao no co, .slice Ab nb cb, .int .i64 1, .bool false, .bool true, .bool fi, .bool rs] _ (by simp)).alloc _); have B2 : Blk W (w.heap.size + 1 + 1) 26 [.int .i64 0, .bool false, .bool false, .int .u32 0, .int .u32 0, .bool false, .bool false] := (by rw [hW]; exact (Blk.new _ _ [.int .i64 0, .bool false, .bool false, .int .u32 0, .int .u32 0, .bool false, .bool false] _ (by simp))); have hWs : w.heap.size + 3 ≤ W.heap.size := (by rw [hW]; simp); have hg0 : w.heap.size < W.heap.size := (by omega); have hg1 : w.heap.size + 1 < W.heap.size := (by omega); have hg2 : w.heap.size + 1 + 1 < W.heap.size := (by omega); obtain ⟨k0', k1', k2', k3', k4', k5', k6', k7', k8', k9'⟩ := cells10 B1; obtain ⟨_, q10, q11, q12, q13⟩ := cell14 B1; obtain ⟨b0, b1, b2, b3, b4, b5, b6⟩ := cells7 B0; obtain ⟨y0, y1, y2, y3, y4, y5, y6⟩ := cells7 B2; obtain ⟨x0, x1, x2, x3, x4, x5, x6⟩ := frozen7 B2
  go_enter Try.func26, Try.ntmps26
  go_wp2_with fail
  rw [← hW]
  clear hW
  go_region_held3 (fun w' => w'.cell? ⟨w.heap.size + 1, 11, none⟩ = some (.bool true) ∧ w'.cell? ⟨w.heap.size + 1, 12, none⟩ = some (.bool fi) ∧ w'.cell? ⟨w.heap.size, 0, none⟩ = some (.int .i64 st) ∧ w'.cell? ⟨w.heap.size, 1, none⟩ = some (.bool f0) ∧ w'.cell? ⟨w.heap.size, 2, none⟩ = some (.bool f1) ∧ w'.cell? ⟨w.heap.size, 3, none⟩ = some (.int .u32 a0) ∧ w'.cell? ⟨w.heap.size, 4, none⟩ = some (.int .u32 a1) ∧ w'.cell? ⟨w.heap.size, 5, none⟩ = some (.bool k0) ∧ w'.cell? ⟨w.heap.size, 6, none⟩ = some (.bool k1)) (exact And.intro (Blk.cell (T := 60) (xs := [.int .i64 sp, .int .i64 dp, .int .u32 sq, .int .u32 ak, .int .i64 fl, .int .i64 wi, .int .i64 ur, .slice Ao no co, .slice Ab nb cb, .int .i64 1, .bool false, .bool true, .bool fi, .bool rs]) (by repeat (first | with_reducible exact B1 | with_reducible refine Blk.drew ?_ | with_reducible refine Blk.alloc ?_ _ | with_reducible refine Blk.other ?_ (by simp <;> omega) _)) rfl) (And.intro (Blk.cell (T := 60) (xs := [.int .i64 sp, .int .i64 dp, .int .u32 sq, .int .u32 ak, .int .i64 fl, .int .i64 wi, .int .i64 ur, .slice Ao no co, .slice Ab nb cb, .int .i64 1, .bool false, .bool true, .bool fi, .bool rs]) (by repeat (first | with_reducible exact B1 | with_reducible refine Blk.drew ?_ | with_reducible refine Blk.alloc ?_ _ | with_reducible refine Blk.other ?_ (by simp <;> omega) _)) rfl) (cells7 (T := 26) (by repeat (first | with_reducible exact B0 | with_reducible refine Blk.drew ?_ | with_reducible refine Blk.alloc ?_ _ | with_reducible refine Blk.other ?_ (by simp <;> omega) _))))) (fail)
  go_wp2_with fail
  exact bodyPost_ret (v := .tuple #[.agg #[.int .i64 st, .bool f0, .bool f1, .int .u32 a0, .int .u32 a1, .bool k0, .bool k1], .bool _]) (by simp [results, Try.results26, go_sem, y0, y1, y2, y3, y4, y5, y6]) rfl (talkR_mk' (d' := ⟨st, f0, f1, a0, a1, k0, k1⟩) HT.out (by repeat (first | with_reducible exact hbW | with_reducible refine Below.drewN ?_ _ | with_reducible refine Below.drew ?_ | with_reducible refine Below.setCell ?_ (by simp <;> omega) _ | with_reducible refine Below.alloc ?_ (by simp <;> omega) _)))
set_option maxHeartbeats 2000000 in
theorem heard_none (c : State.C) (sp dp sq ak fl wi ur : Int) (Ao : Option Addr) (no co : Nat) (Ab : Option Addr) (nb cb : Nat) (sd : Int) (fi rs : Bool) (w : World) (hn : nb ≤ 4294967295)
    (W0 : State.W) (hW0 : W0 = ⟨sd, false, false, fi, rs, Seq.step sq (State.size nb fl), ak⟩) :
    Calls Try.prog 26 #[.agg #[.int .i64 c.st, .bool c.f0, .bool c.f1, .int .u32 c.a0, .int .u32 c.a1, .bool c.k0, .bool c.k1], .agg #[.int .i64 sp, .int .i64 dp, .int .u32 sq, .int .u32 ak, .int .i64 fl, .int .i64 wi, .int .i64 ur, .slice Ao no co, .slice Ab nb cb, .int .i64 sd, .bool false, .bool false, .bool fi, .bool rs]] w (TalkR (State.heard c W0).1 (State.heard c W0).2 w) := by
  have HT : Hid (State.heard c W0 = (c, false)) := by
    show _ = _
    subst hW0
    rfl
  clear hW0
  obtain ⟨st, f0, f1, a0, a1, k0, k1⟩ := c
  obtain ⟨W, hW⟩ : ∃ W, W = ((w.alloc (.cells #[.int .i64 st, .bool f0, .bool f1, .int .u32 a0, .int .u32 a1, .bool k0, .bool k1] 26)).alloc (.cells #[.int .i64 sp, .int .i64 dp, .int .u32 sq, .int .u32 ak, .int .i64 fl, .int .i64 wi, .int .i64 ur, .slice Ao no co, .slice Ab nb cb, .int .i64 sd, .bool false, .bool false, .bool fi, .bool rs] 60)).alloc (.cells #[.int .i64 0, .bool false, .bool false, .int .u32 0, .int .u32 0, .bool false, .bool false] 26) := ⟨_, rfl⟩; have hbW : Below w.heap.size w W := (by rw [hW]; exact (((Below.refl _ _).alloc (Nat.le_refl _) _).alloc (by simp) _).alloc (by simp; omega) _); have B0 : Blk W w.heap.size 26 [.int .i64 st, .bool f0, .bool f1, .int .u32 a0, .int .u32 a1, .bool k0, .bool k1] := (by rw [hW]; exact ((Blk.new _ _ [.int .i64 st, .bool f0, .bool f1, .int .u32 a0, .int .u32 a1, .bool k0, .bool k1] _ rfl).alloc _).alloc _); have B1 : Blk W (w.heap.size + 1) 60 [.int .i64 sp, .int .i64 dp, .int .u32 sq, .int .u32 ak, .int .i64 fl, .int .i64 wi, .int .i64 ur, .slice Ao no co, .slice Ab nb cb, .int .i64 sd, .bool false, .bool false, .bool fi, .bool rs] := (by rw [hW]; exact (Blk.new _ _ [.int .i64 sp, .int .i64 dp, .int .u32 sq, .int .u32 ak, .int .i64 fl, .int .i64 wi, .int .i64 ur, .slice Ao no co, .slice Ab nb cb, .int .i64 sd, .bool false, .bool false, .bool fi, .bool rs] _ (by simp)).alloc _); have B2 : Blk W (w.heap.size + 1 + 1) 26 [.int .i64 0, .bool false, .bool false, .int .u32 0, .int .u32 0, .bool false, .bool false] := (by rw [hW]; exact (Blk.new _ _ [.int .i64 0, .bool false, .bool false, .int .u32 0, .int .u32 0, .bool false, .bool false] _ (by simp))); have hWs : w.heap.size + 3 ≤ W.heap.size := (by rw [hW]; simp); have hg0 : w.heap.size < W.heap.size := (by omega); have hg1 : w.heap.size + 1 < W.heap.size := (by omega); have hg2 : w.heap.size + 1 + 1 < W.heap.size := (by omega); obtain ⟨k0', k1', k2', k3', k4', k5', k6', k7', k8', k9'⟩ := cells10 B1; obtain ⟨_, q10, q11, q12, q13⟩ := cell14 B1; obtain ⟨b0, b1, b2, b3, b4, b5, b6⟩ := cells7 B0; obtain ⟨y0, y1, y2, y3, y4, y5, y6⟩ := cells7 B2; obtain ⟨x0, x1, x2, x3, x4, x5, x6⟩ := frozen7 B2
  go_enter Try.func26, Try.ntmps26
  go_wp2_with fail
  rw [← hW]
  clear hW
  go_region
  all_goals
    go_wp2_with fail
    exact bodyPost_ret (v := .tuple #[.agg #[.int .i64 st, .bool f0, .bool f1, .int .u32 a0, .int .u32 a1, .bool k0, .bool k1], .bool _]) (by simp [results, Try.results26, go_sem, y0, y1, y2, y3, y4, y5, y6]) rfl (talkR_mk' (d' := ⟨st, f0, f1, a0, a1, k0, k1⟩) HT.out (by repeat (first | with_reducible exact hbW | with_reducible refine Below.drewN ?_ _ | with_reducible refine Below.drew ?_ | with_reducible refine Below.setCell ?_ (by simp <;> omega) _ | with_reducible refine Below.alloc ?_ (by simp <;> omega) _)))
theorem heard_spec (c : State.C) (sp dp sq ak fl wi ur : Int) (Ao : Option Addr) (no co : Nat) (Ab : Option Addr) (nb cb : Nat) (sd : Int) (sy ac fi rs : Bool) (w : World) (hn : nb ≤ 4294967295) (hsd : sd = 0 ∨ sd = 1)
    (W0 : State.W) (hW : W0 = ⟨sd, sy, ac, fi, rs, Seq.step sq (State.size nb fl), ak⟩) :
    Calls Try.prog 26 #[.agg #[.int .i64 c.st, .bool c.f0, .bool c.f1, .int .u32 c.a0, .int .u32 c.a1, .bool c.k0, .bool c.k1], .agg #[.int .i64 sp, .int .i64 dp, .int .u32 sq, .int .u32 ak, .int .i64 fl, .int .i64 wi, .int .i64 ur, .slice Ao no co, .slice Ab nb cb, .int .i64 sd, .bool sy, .bool ac, .bool fi, .bool rs]] w (TalkR (State.heard c W0).1 (State.heard c W0).2 w) := by
  cases sy
  · cases ac
    · exact heard_none c sp dp sq ak fl wi ur Ao no co Ab nb cb sd fi rs w hn W0 hW
    · rcases hsd with rfl | rfl
      · exact heard_talk c sp dp sq ak fl wi ur Ao no co Ab nb cb fi rs w hn W0 hW
      · exact heard_one c sp dp sq ak fl wi ur Ao no co Ab nb cb fi rs w hn W0 hW
  · exact heard_syn c sp dp sq ak fl wi ur Ao no co Ab nb cb sd ac fi rs w W0 hW
theorem begins_b (sd sp dp sq ak fl wi ur : Int) (Ao : Option Addr) (no co : Nat) (Ab : Option Addr) (nb cb : Nat) (sy ac fi rs : Bool) (bh an : Int) (b : Bool) (w : World) (hb : State.begins ⟨sd, sy, ac, fi, rs, bh, an⟩ = b) :
    Calls Try.prog 25 #[.agg #[.int .i64 sp, .int .i64 dp, .int .u32 sq, .int .u32 ak, .int .i64 fl, .int .i64 wi, .int .i64 ur, .slice Ao no co, .slice Ab nb cb, .int .i64 sd, .bool sy, .bool ac, .bool fi, .bool rs]] w fun e w' => e = .returned (.bool b) ∧ w.alloc (.cells #[.int .i64 sp, .int .i64 dp, .int .u32 sq, .int .u32 ak, .int .i64 fl, .int .i64 wi, .int .i64 ur, .slice Ao no co, .slice Ab nb cb, .int .i64 sd, .bool sy, .bool ac, .bool fi, .bool rs] 60) = w' := by
  subst hb
  exact begins_at sp dp sq ak fl wi ur Ao no co Ab nb cb sd sy ac fi rs w
theorem cells9 {w : World} {g : Nat} {T : TypeId} {x0 x1 x2 x3 x4 x5 x6 x7 x8 : Value} (h : Blk w g T [x0, x1, x2, x3, x4, x5, x6, x7, x8]) :
    w.cell? ⟨g, 0, none⟩ = some x0 ∧ w.cell? ⟨g, 1, none⟩ = some x1 ∧ w.cell? ⟨g, 2, none⟩ = some x2 ∧ w.cell? ⟨g, 3, none⟩ = some x3 ∧ w.cell? ⟨g, 4, none⟩ = some x4 ∧ w.cell? ⟨g, 5, none⟩ = some x5 ∧ w.cell? ⟨g, 6, none⟩ = some x6 ∧ w.cell? ⟨g, 7, none⟩ = some x7 ∧ w.cell? ⟨g, 8, none⟩ = some x8 :=
  ⟨h.cell rfl, h.cell rfl, h.cell rfl, h.cell rfl, h.cell rfl, h.cell rfl, h.cell rfl, h.cell rfl, h.cell rfl⟩
theorem cells14 {w : World} {g : Nat} {T : TypeId} {x0 x1 x2 x3 x4 x5 x6 x7 x8 x9 x10 x11 x12 x13 : Value} (h : Blk w g T [x0, x1, x2, x3, x4, x5, x6, x7, x8, x9, x10, x11, x12, x13]) :
    w.cell? ⟨g, 0, none⟩ = some x0 ∧ w.cell? ⟨g, 1, none⟩ = some x1 ∧ w.cell? ⟨g, 2, none⟩ = some x2 ∧ w.cell? ⟨g, 3, none⟩ = some x3 ∧ w.cell? ⟨g, 4, none⟩ = some x4 ∧ w.cell? ⟨g, 5, none⟩ = some x5 ∧ w.cell? ⟨g, 6, none⟩ = some x6 ∧ w.cell? ⟨g, 7, none⟩ = some x7 ∧ w.cell? ⟨g, 8, none⟩ = some x8 ∧ w.cell? ⟨g, 9, none⟩ = some x9 ∧ w.cell? ⟨g, 10, none⟩ = some x10 ∧ w.cell? ⟨g, 11, none⟩ = some x11 ∧ w.cell? ⟨g, 12, none⟩ = some x12 ∧ w.cell? ⟨g, 13, none⟩ = some x13 :=
  ⟨h.cell rfl, h.cell rfl, h.cell rfl, h.cell rfl, h.cell rfl, h.cell rfl, h.cell rfl, h.cell rfl, h.cell rfl, h.cell rfl, h.cell rfl, h.cell rfl, h.cell rfl, h.cell rfl⟩
theorem Below.new_of2 {w w' : World} {o : Obj} (h : w.alloc o = w') : Below w.heap.size w w' := by subst h; exact (Below.refl _ _).alloc (Nat.le_refl _) o
theorem World.heap_size_alloc (w : World) (o : Obj) : (w.alloc o).heap.size = w.heap.size + 1 := by simp
end Go.Proofs.Ytliibpajgdncpaa
