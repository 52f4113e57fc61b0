/- The contract of the reference's Step. -/
import Derived.Test.YtliibpajgdncpaaSRefS0a
import Derived.Test.YtliibpajgdncpaaSRefS0b
import Derived.Test.YtliibpajgdncpaaSRefS1a
import Derived.Test.YtliibpajgdncpaaSRefS1b
namespace Go.Proofs.Ytliibpajgdncpaa
open Go.RowKit
set_option linter.unusedVariables false
set_option maxRecDepth 8000 in
set_option maxHeartbeats 2000000 in
theorem rstep_bad (c : State.C) (sd sp dp sq ak fl wi ur : Int) (Ao : Option Addr) (no co : Nat) (Ab : Option Addr) (nb cb : Nat) (w : World) (ha : 0 ≤ c.a0 ∧ 0 ≤ c.a1) (h : Hid (State.rightB c = false ∨ (¬ sd = 0 ∧ ¬ sd = 1))) (W0 : State.W) (hW0 : Hid (State.step c W0 = (c, false))) :
    Calls Try.prog 13 #[.agg #[.int .i64 c.st, .bool c.f0, .bool c.f1, .int .u32 c.a0, .int .u32 c.a1, .bool c.k0, .bool c.k1], .int .i64 sd, .agg #[.int .i64 sp, .int .i64 dp, .int .u32 sq, .int .u32 ak, .int .i64 fl, .int .i64 wi, .int .i64 ur, .slice Ao no co, .slice Ab nb cb]] w (TalkR (State.step c W0).1 (State.step c W0).2 w) := by
  obtain ⟨st, f0, f1, a0, a1, k0, k1⟩ := c
  obtain ⟨W, hW⟩ : ∃ W, W = ((w.alloc (.cells #[.int .i64 st, .bool f0, .bool f1, .int .u32 a0, .int .u32 a1, .bool k0, .bool k1] 26)).alloc (.cells #[.int .i64 sp, .int .i64 dp, .int .u32 sq, .int .u32 ak, .int .i64 fl, .int .i64 wi, .int .i64 ur, .slice Ao no co, .slice Ab nb cb] 30)).alloc (.cells #[.int .i64 0, .bool false, .bool false, .int .u32 0, .int .u32 0, .bool false, .bool false] 26) := ⟨_, rfl⟩
  have M0 : SMem w W [.int .i64 st, .bool f0, .bool f1, .int .u32 a0, .int .u32 a1, .bool k0, .bool k1] [.int .i64 sp, .int .i64 dp, .int .u32 sq, .int .u32 ak, .int .i64 fl, .int .i64 wi, .int .i64 ur, .slice Ao no co, .slice Ab nb cb] := (by rw [hW]; exact SMem.new w _ _)
  obtain ⟨q, hq⟩ : ∃ q, State.rightB (⟨st, f0, f1, a0, a1, k0, k1⟩ : State.C) = q := ⟨_, rfl⟩
  rw [hq] at h
  have hR := rright_spec (⟨st, f0, f1, a0, a1, k0, k1⟩ : State.C) W ha
  rw [hq] at hR
  clear hq
  go_enter Try.func13, Try.ntmps13
  go_wp2_with fail
  rw [← hW]
  clear hW
  refine hR.mono ?_
  rintro e w1 ⟨rfl, hb1⟩
  have M := M0.later hb1
  clear M0 hR hb1
  obtain ⟨b0, b1, b2, b3, b4, b5, b6⟩ := cells7 M.b0
  obtain ⟨z0, z1, z2, z3, z4, z5, z6⟩ := frozen7 M.b0
  obtain ⟨y0, y1, y2, y3, y4, y5, y6⟩ := cells7 M.b2
  obtain ⟨x0, x1, x2, x3, x4, x5, x6⟩ := frozen7 M.b2
  have hl0 := M.b0.lt
  have hl2 := M.b2.lt
  cases q
  · clear h
    go_wp2_with fail
    exact bodyPost_ret (v := .tuple #[.agg #[.int .i64 st, .bool f0, .bool f1, .int .u32 a0, .int .u32 a1, .bool k0, .bool k1], .bool false]) (by simp [results, Try.results13, go_sem, y0, y1, y2, y3, y4, y5, y6]) rfl (talkR_mk' (d' := ⟨st, f0, f1, a0, a1, k0, k1⟩) hW0.out (by repeat (first | with_reducible exact M.bel | with_reducible refine Below.drewN ?_ _ | with_reducible refine Below.drew ?_ | with_reducible refine Below.setCell ?_ (by simp <;> omega) _ | with_reducible refine Below.alloc ?_ (by simp <;> omega) _)))
  · obtain ⟨n0, n1⟩ : ¬ sd = 0 ∧ ¬ sd = 1 := by
      rcases h.out with h | h
      · cases h
      · exact h
    have n0' : (sd == 0) = false := by rw [beq_eq_false_iff_ne]; exact n0
    have n1' : (sd == 1) = false := by rw [beq_eq_false_iff_ne]; exact n1
    have n0'' : (sd != 0) = true := by rw [bne_iff_ne]; exact n0
    have n1'' : (sd != 1) = true := by rw [bne_iff_ne]; exact n1
    clear h
    go_wp2_with fail
    exact bodyPost_ret (v := .tuple #[.agg #[.int .i64 st, .bool f0, .bool f1, .int .u32 a0, .int .u32 a1, .bool k0, .bool k1], .bool false]) (by simp [results, Try.results13, go_sem, y0, y1, y2, y3, y4, y5, y6]) rfl (talkR_mk' (d' := ⟨st, f0, f1, a0, a1, k0, k1⟩) hW0.out (by repeat (first | with_reducible exact M.bel | with_reducible refine Below.drewN ?_ _ | with_reducible refine Below.drew ?_ | with_reducible refine Below.setCell ?_ (by simp <;> omega) _ | with_reducible refine Below.alloc ?_ (by simp <;> omega) _)))
theorem State.size_fin (n : Nat) (fl : Int) (hs : State.has fl 2 = false) (hf : State.has fl 1 = true) : State.size n fl = (n : Int) + 1 := by
  unfold State.size
  rw [hs, hf]
  unfold State.bi
  simp
theorem rstep_spec (c : State.C) (sd sp dp sq ak fl wi ur : Int) (Ao : Option Addr) (no co : Nat) (Ab : Option Addr) (nb cb : Nat) (w : World) (hn : nb ≤ 4294967295) (hsq : 0 ≤ sq ∧ sq ≤ 4294967295) (hak : 0 ≤ ak ∧ ak ≤ 4294967295) (ha0 : 0 ≤ c.a0 ∧ c.a0 ≤ 4294967295) (ha1 : 0 ≤ c.a1 ∧ c.a1 ≤ 4294967295) :
    Calls Try.prog 13 #[.agg #[.int .i64 c.st, .bool c.f0, .bool c.f1, .int .u32 c.a0, .int .u32 c.a1, .bool c.k0, .bool c.k1], .int .i64 sd, .agg #[.int .i64 sp, .int .i64 dp, .int .u32 sq, .int .u32 ak, .int .i64 fl, .int .i64 wi, .int .i64 ur, .slice Ao no co, .slice Ab nb cb]] w (TalkR (State.step c (State.said sd sq ak fl nb)).1 (State.step c (State.said sd sq ak fl nb)).2 w) := by
  by_cases h : State.rightB c = false ∨ sd < 0 ∨ 1 < sd
  · refine rstep_bad c sd sp dp sq ak fl wi ur Ao no co Ab nb cb w ⟨ha0.1, ha1.1⟩ (Lib.hid ?_) _ (Lib.hid (State.step_bad h))
    rcases h with h | h | h
    · exact Or.inl h
    · right; omega
    · right; omega
  · have hr : State.rightB c = true := by
      cases hq : State.rightB c
      · exact absurd (Or.inl hq) h
      · rfl
    have hst := State.right_st hr
    have hsd : sd = 0 ∨ sd = 1 := by omega
    rw [State.step_good hr (by exact hsd)]
    obtain ⟨st, f0, f1, a0, a1, k0, k1⟩ := c
    obtain ⟨E1, E2, E4, E16⟩ := State.eq_has fl
    have HBH : Hid (State.has fl 2 = false → State.has fl 1 = true → Seq.step sq (State.size nb fl) = (sq + nb + 1) % 4294967296) := Lib.hid (by
      intro h2 h1
      rw [State.size_fin nb fl h2 h1]
      unfold Seq.step
      omega)
    rcases hsd with rfl | rfl
    · by_cases h4 : st ≤ 2
      · exact rstep_go0a st a0 a1 f0 f1 k0 k1 sp dp sq ak fl wi ur Ao no co Ab nb cb _ _ _ _ _ (Lib.hid E1) (Lib.hid E2) (Lib.hid E4) (Lib.hid E16) HBH w hn hsq hak ha0 ha1 (Lib.hid hr) (Lib.hid h4)
      · exact rstep_go0b st a0 a1 f0 f1 k0 k1 sp dp sq ak fl wi ur Ao no co Ab nb cb _ _ _ _ _ (Lib.hid E1) (Lib.hid E2) (Lib.hid E4) (Lib.hid E16) HBH w hn hsq hak ha0 ha1 (Lib.hid hr) (Lib.hid (by omega))
    · by_cases h4 : st ≤ 2
      · exact rstep_go1a st a0 a1 f0 f1 k0 k1 sp dp sq ak fl wi ur Ao no co Ab nb cb _ _ _ _ _ (Lib.hid E1) (Lib.hid E2) (Lib.hid E4) (Lib.hid E16) HBH w hn hsq hak ha0 ha1 (Lib.hid hr) (Lib.hid h4)
      · exact rstep_go1b st a0 a1 f0 f1 k0 k1 sp dp sq ak fl wi ur Ao no co Ab nb cb _ _ _ _ _ (Lib.hid E1) (Lib.hid E2) (Lib.hid E4) (Lib.hid E16) HBH w hn hsq hak ha0 ha1 (Lib.hid hr) (Lib.hid (by omega))
end Go.Proofs.Ytliibpajgdncpaa
