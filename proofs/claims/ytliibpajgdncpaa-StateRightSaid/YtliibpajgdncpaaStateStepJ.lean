/- The contract of state.Step. -/
import Derived.Test.YtliibpajgdncpaaStateStep0
import Derived.Test.YtliibpajgdncpaaStateStep1
namespace Go.Proofs.Ytliibpajgdncpaa
open Go.RowKit
set_option linter.unusedVariables false
theorem State.right_st {c : State.C} (h : State.rightB c = true) : c.st = 0 ∨ c.st = 1 ∨ c.st = 2 ∨ c.st = 3 ∨ c.st = 4 ∨ c.st = 5 ∨ c.st = 6 ∨ c.st = 7 := by
  unfold State.rightB at h
  by_cases h0 : c.st = 0 ∨ c.st = 1 ∨ c.st = 2 ∨ c.st = 3
  · omega
  by_cases h4 : c.st = 4
  · omega
  by_cases h5 : c.st = 5
  · omega
  by_cases h6 : c.st = 6
  · omega
  rw [if_neg h0, if_neg h4, if_neg h5, if_neg h6] at h
  simp only [Bool.and_eq_true, beq_iff_eq] at h
  omega
set_option maxHeartbeats 2000000 in
theorem step_bad (c : State.C) (sd sp dp sq ak fl wi ur : Int) (Ao : Option Addr) (no co : Nat) (Ab : Option Addr) (nb cb : Nat) (w : World) (h : Hid (State.rightB c = false ∨ sd < 0 ∨ 1 < sd)) (W0 : State.W) (hW0 : Hid (State.step c W0 = (c, false))) :
    Calls Try.prog 12 #[.agg #[.int .i64 c.st, .bool c.f0, .bool c.f1, .int .u32 c.a0, .int .u32 c.a1, .bool c.k0, .bool c.k1], .int .i64 sd, .agg #[.int .i64 sp, .int .i64 dp, .int .u32 sq, .int .u32 ak, .int .i64 fl, .int .i64 wi, .int .i64 ur, .slice Ao no co, .slice Ab nb cb]] w (TalkR (State.step c W0).1 (State.step c W0).2 w) := by
  obtain ⟨st, f0, f1, a0, a1, k0, k1⟩ := c
  obtain ⟨W, hW⟩ : ∃ W, W = ((w.alloc (.cells #[.int .i64 st, .bool f0, .bool f1, .int .u32 a0, .int .u32 a1, .bool k0, .bool k1] 26)).alloc (.cells #[.int .i64 sp, .int .i64 dp, .int .u32 sq, .int .u32 ak, .int .i64 fl, .int .i64 wi, .int .i64 ur, .slice Ao no co, .slice Ab nb cb] 30)).alloc (.cells #[.int .i64 0, .bool false, .bool false, .int .u32 0, .int .u32 0, .bool false, .bool false] 26) := ⟨_, rfl⟩
  have hbW : Below w.heap.size w W := (by rw [hW]; exact (((Below.refl _ _).alloc (Nat.le_refl _) _).alloc (by simp) _).alloc (by simp; omega) _)
  have B0 : Blk W w.heap.size 26 [.int .i64 st, .bool f0, .bool f1, .int .u32 a0, .int .u32 a1, .bool k0, .bool k1] := (by rw [hW]; exact ((Blk.new _ _ [.int .i64 st, .bool f0, .bool f1, .int .u32 a0, .int .u32 a1, .bool k0, .bool k1] _ rfl).alloc _).alloc _)
  have B2 : Blk W (w.heap.size + 1 + 1) 26 [.int .i64 0, .bool false, .bool false, .int .u32 0, .int .u32 0, .bool false, .bool false] := (by rw [hW]; exact (Blk.new _ _ [.int .i64 0, .bool false, .bool false, .int .u32 0, .int .u32 0, .bool false, .bool false] _ (by simp)))
  obtain ⟨q, hq⟩ : ∃ q, State.rightB (⟨st, f0, f1, a0, a1, k0, k1⟩ : State.C) = q := ⟨_, rfl⟩
  rw [hq] at h
  have HQ := Lib.hid hq
  have hR := sright_spec (⟨st, f0, f1, a0, a1, k0, k1⟩ : State.C) W
  rw [hq] at hR
  clear hq
  go_enter Try.func12, Try.ntmps12
  go_wp2_with fail
  rw [← hW]
  clear hW
  refine hR.mono ?_
  rintro e w1 ⟨rfl, hb1⟩
  have B0' := B0.later hb1
  have B2' := B2.later hb1
  have hbW1 := bel_then hbW hb1
  clear B0 B2 hbW hR
  obtain ⟨b0, b1, b2, b3, b4, b5, b6⟩ := cells7 B0'
  obtain ⟨y0, y1, y2, y3, y4, y5, y6⟩ := cells7 B2'
  obtain ⟨x0, x1, x2, x3, x4, x5, x6⟩ := frozen7 B2'
  have HH := h
  clear h hb1
  cases q
  · go_wp2_with fail
    exact bodyPost_ret (v := .tuple #[.agg #[.int .i64 st, .bool f0, .bool f1, .int .u32 a0, .int .u32 a1, .bool k0, .bool k1], .bool false]) (by simp [results, Try.results12, go_sem, *]) rfl (talkR_mk' (d' := ⟨st, f0, f1, a0, a1, k0, k1⟩) hW0.out (by repeat (first | with_reducible exact hbW1 | with_reducible refine Below.setCell ?_ (by simp <;> omega) _)))
  · by_cases h1 : sd < 0
    · go_wp2_with fail
      exact bodyPost_ret (v := .tuple #[.agg #[.int .i64 st, .bool f0, .bool f1, .int .u32 a0, .int .u32 a1, .bool k0, .bool k1], .bool false]) (by simp [results, Try.results12, go_sem, *]) rfl (talkR_mk' (d' := ⟨st, f0, f1, a0, a1, k0, k1⟩) hW0.out (by repeat (first | with_reducible exact hbW1 | with_reducible refine Below.setCell ?_ (by simp <;> omega) _)))
    · have h2 : 1 < sd := by
        rcases HH.out with h | h | h
        · cases h
        · omega
        · exact h
      go_wp2_with fail
      exact bodyPost_ret (v := .tuple #[.agg #[.int .i64 st, .bool f0, .bool f1, .int .u32 a0, .int .u32 a1, .bool k0, .bool k1], .bool false]) (by simp [results, Try.results12, go_sem, *]) rfl (talkR_mk' (d' := ⟨st, f0, f1, a0, a1, k0, k1⟩) hW0.out (by repeat (first | with_reducible exact hbW1 | with_reducible refine Below.setCell ?_ (by simp <;> omega) _)))
theorem State.step_bad {c : State.C} {W0 : State.W} (h : State.rightB c = false ∨ W0.side < 0 ∨ 1 < W0.side) : State.step c W0 = (c, false) := by
  unfold State.step
  rw [if_pos]
  rcases h with h | h | h <;> simp [h]
theorem State.step_good {c : State.C} {W0 : State.W} (h : State.rightB c = true) (h1 : W0.side = 0 ∨ W0.side = 1) : State.step c W0 = State.go c W0 := by
  unfold State.step
  rw [if_neg]
  rcases h1 with h1 | h1 <;> simp [h, h1]
theorem step_spec (c : State.C) (sd sp dp sq ak fl wi ur : Int) (Ao : Option Addr) (no co : Nat) (Ab : Option Addr) (nb cb : Nat) (w : World) (hn : nb ≤ 4294967295) :
    Calls Try.prog 12 #[.agg #[.int .i64 c.st, .bool c.f0, .bool c.f1, .int .u32 c.a0, .int .u32 c.a1, .bool c.k0, .bool c.k1], .int .i64 sd, .agg #[.int .i64 sp, .int .i64 dp, .int .u32 sq, .int .u32 ak, .int .i64 fl, .int .i64 wi, .int .i64 ur, .slice Ao no co, .slice Ab nb cb]] w (TalkR (State.step c (State.said sd sq ak fl nb)).1 (State.step c (State.said sd sq ak fl nb)).2 w) := by
  by_cases h : State.rightB c = false ∨ sd < 0 ∨ 1 < sd
  · exact step_bad c sd sp dp sq ak fl wi ur Ao no co Ab nb cb w h _ (State.step_bad h)
  · have hr : State.rightB c = true := by
      cases hq : State.rightB c
      · exact absurd (Or.inl hq) h
      · rfl
    have hst := State.right_st hr
    have hsd : sd = 0 ∨ sd = 1 := by omega
    rw [State.step_good hr (by exact hsd)]
    obtain ⟨st, f0, f1, a0, a1, k0, k1⟩ := c
    rcases hsd with rfl | rfl
    · by_cases h4 : st < 4
      · exact step_go0a st a0 a1 f0 f1 k0 k1 sp dp sq ak fl wi ur Ao no co Ab nb cb _ _ _ _ rfl rfl rfl rfl w hn hr (by show _ ∨ _; simp only at hst; omega)
      · exact step_go0b st a0 a1 f0 f1 k0 k1 sp dp sq ak fl wi ur Ao no co Ab nb cb _ _ _ _ rfl rfl rfl rfl w hn hr (by show _ ∨ _; simp only at hst; omega)
    · by_cases h4 : st < 4
      · exact step_go1a st a0 a1 f0 f1 k0 k1 sp dp sq ak fl wi ur Ao no co Ab nb cb _ _ _ _ rfl rfl rfl rfl w hn hr (by show _ ∨ _; simp only at hst; omega)
      · exact step_go1b st a0 a1 f0 f1 k0 k1 sp dp sq ak fl wi ur Ao no co Ab nb cb _ _ _ _ rfl rfl rfl rfl w hn hr (by show _ ∨ _; simp only at hst; omega)
end Go.Proofs.Ytliibpajgdncpaa
