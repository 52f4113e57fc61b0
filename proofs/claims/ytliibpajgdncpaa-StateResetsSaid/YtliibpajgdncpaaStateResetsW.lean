/- The walk of the law StateResets. -/
import Derived.Test.YtliibpajgdncpaaStateAwake
import Derived.Test.YtliibpajgdncpaaStateBits
import Derived.Test.YtliibpajgdncpaaTcpShort
import Derived.Test.YtliibpajgdncpaaStateEq
namespace Go.Proofs.Ytliibpajgdncpaa
open Go.RowKit
set_option linter.unusedVariables false
attribute [local go_sem] eq_bool2 eq_u32x2
def State.live (c : State.C) : Bool := !(c.st == 0) && !(c.st == 6) && !(c.st == 7)
def State.broken (c : State.C) : State.C := { c with st := 7 }
theorem State.resets1 {c : State.C} {W0 : State.W} (hr : State.rightB c = true) (hs : W0.side = 0 ∨ W0.side = 1) (h : W0.rst = true) : State.step c W0 = if State.live c = true then (State.broken c, true) else (c, false) := by
  rw [State.step_good hr hs]
  unfold State.go State.live State.over State.broken
  rw [h]
  rcases State.right_st hr with e | e | e | e | e | e | e | e <;> rw [e] <;> rfl
theorem State.right_broken {c : State.C} (hr : State.rightB c = true) : State.rightB (State.broken c) = true := by
  have h2 : (State.sideB c.f0 c.a0 c.k0 && State.sideB c.f1 c.a1 c.k1) = true := by
    unfold State.rightB at hr
    rw [Bool.and_eq_true] at hr
    exact hr.1
  unfold State.rightB State.broken
  simp only [h2]
  rfl
theorem State.resets2 {c : State.C} {W0 : State.W} (hr : State.rightB c = true) (hs : W0.side = 0 ∨ W0.side = 1) :
    State.step (State.broken c) W0 = if (State.begins W0 && !W0.rst) = true then (⟨1, false, false, 0, 0, false, false⟩, true) else (State.broken c, false) := by
  rw [State.step_good (State.right_broken hr) hs]
  unfold State.go State.over State.broken
  simp only
  cases W0.rst <;> cases State.begins W0 <;> rfl
set_option maxHeartbeats 2000000 in
theorem resets_walk (c : State.C) (s : Int) (t u : Tcp.T) (w : World) (ht : t.ok w) (hu : u.ok w) (hs0 : 0 ≤ s) (hs1 : s ≤ 255) :
    Calls Try.prog 5 #[.agg #[.int .i64 c.st, .bool c.f0, .bool c.f1, .int .u32 c.a0, .int .u32 c.a1, .bool c.k0, .bool c.k1], .int .u8 s, .agg #[.int .i64 t.sp, .int .i64 t.dp, .int .u32 t.sq, .int .u32 t.ak, .int .i64 t.fl, .int .i64 t.wi, .int .i64 t.ur, .slice t.Ao t.no t.co, .slice t.Ab t.nb t.cb], .agg #[.int .i64 u.sp, .int .i64 u.dp, .int .u32 u.sq, .int .u32 u.ak, .int .i64 u.fl, .int .i64 u.wi, .int .i64 u.ur, .slice u.Ao u.no u.co, .slice u.Ab u.nb u.cb]] w fun e w' => e = .returned (.bool true) ∧ Below w.heap.size w w' := by
  obtain ⟨W, hW⟩ : ∃ W, W = ((w.alloc (.cells #[.int .i64 c.st, .bool c.f0, .bool c.f1, .int .u32 c.a0, .int .u32 c.a1, .bool c.k0, .bool c.k1] 26)).alloc (.cells #[.int .i64 t.sp, .int .i64 t.dp, .int .u32 t.sq, .int .u32 t.ak, .int .i64 t.fl, .int .i64 t.wi, .int .i64 t.ur, .slice t.Ao t.no t.co, .slice t.Ab t.nb t.cb] 30)).alloc (.cells #[.int .i64 u.sp, .int .i64 u.dp, .int .u32 u.sq, .int .u32 u.ak, .int .i64 u.fl, .int .i64 u.wi, .int .i64 u.ur, .slice u.Ao u.no u.co, .slice u.Ab u.nb u.cb] 30) := ⟨_, rfl⟩
  have hbW : Below w.heap.size w W := (by rw [hW]; exact (((Below.refl _ _).alloc (Nat.le_refl _) _).alloc (by simp) _).alloc (by simp; omega) _)
  have B0 : Blk W w.heap.size 26 [.int .i64 c.st, .bool c.f0, .bool c.f1, .int .u32 c.a0, .int .u32 c.a1, .bool c.k0, .bool c.k1] := (by rw [hW]; exact ((Blk.new _ _ [.int .i64 c.st, .bool c.f0, .bool c.f1, .int .u32 c.a0, .int .u32 c.a1, .bool c.k0, .bool c.k1] _ rfl).alloc _).alloc _)
  have B1 : Blk W (w.heap.size + 1) 30 [.int .i64 t.sp, .int .i64 t.dp, .int .u32 t.sq, .int .u32 t.ak, .int .i64 t.fl, .int .i64 t.wi, .int .i64 t.ur, .slice t.Ao t.no t.co, .slice t.Ab t.nb t.cb] := (by rw [hW]; exact (Blk.new _ _ [.int .i64 t.sp, .int .i64 t.dp, .int .u32 t.sq, .int .u32 t.ak, .int .i64 t.fl, .int .i64 t.wi, .int .i64 t.ur, .slice t.Ao t.no t.co, .slice t.Ab t.nb t.cb] _ (by simp)).alloc _)
  have B2 : Blk W (w.heap.size + 1 + 1) 30 [.int .i64 u.sp, .int .i64 u.dp, .int .u32 u.sq, .int .u32 u.ak, .int .i64 u.fl, .int .i64 u.wi, .int .i64 u.ur, .slice u.Ao u.no u.co, .slice u.Ab u.nb u.cb] := (by rw [hW]; exact (Blk.new _ _ [.int .i64 u.sp, .int .i64 u.dp, .int .u32 u.sq, .int .u32 u.ak, .int .i64 u.fl, .int .i64 u.wi, .int .i64 u.ur, .slice u.Ao u.no u.co, .slice u.Ab u.nb u.cb] _ (by simp)))
  have T0 := ht.below hbW
  have U0 := hu.below hbW
  clear ht hu
  go_enter Try.func5, Try.ntmps5
  go_wp2_with fail
  rw [← hW]
  clear hW
  refine (sawake W).mono ?_
  rintro e w1 ⟨rfl, hb1⟩
  have B0a := B0.later hb1
  have B1a := B1.later hb1
  have B2a := B2.later hb1
  have hbA := bel_then hbW hb1
  have Ta := T0.below hb1
  have Ua := U0.below hb1
  clear B0 B1 B2 T0 U0 hb1 hbW
  obtain ⟨b0, b1, b2, b3, b4, b5, b6⟩ := cells7 B0a
  go_wp2_with fail
  refine (sright_spec c _).mono ?_
  rintro e w2 ⟨rfl, hb1⟩
  have B0 := B0a.later hb1
  have B1 := B1a.later hb1
  have B2 := B2a.later hb1
  have hbW := bel_then hbA hb1
  have T0 := Ta.below hb1
  have U0 := Ua.below hb1
  clear B0a B1a B2a Ta Ua hb1 hbA b0 b1 b2 b3 b4 b5 b6
  cases hr : State.rightB c
  · go_wp2_with fail
    go_ret
    exact ⟨rfl, hbW⟩
  have HR := Lib.hid hr
  obtain ⟨b0, b1, b2, b3, b4, b5, b6, b7, b8⟩ := cells9 B1
  go_wp2_with fail
  refine (short_spec t _ T0).mono ?_
  rintro e w3 ⟨b, rfl, hsh, hb1⟩
  have HSH := Lib.hid hsh
  have B0a := B0.later hb1
  have B1a := B1.later hb1
  have B2a := B2.later hb1
  have hbA := bel_then hbW hb1
  have Ta := T0.below hb1
  have Ua := U0.below hb1
  clear B0 B1 B2 T0 U0 hb1 hbW b0 b1 b2 b3 b4 b5 b6 b7 b8 hsh
  cases b
  · go_wp2_with fail
    go_ret
    exact ⟨rfl, hbA⟩
  have hnt := (HSH.out rfl).1
  clear HSH
  obtain ⟨b0, b1, b2, b3, b4, b5, b6, b7, b8⟩ := cells9 B2a
  go_wp2_with fail
  refine (short_spec u _ Ua).mono ?_
  rintro e w4 ⟨b, rfl, hsh, hb1⟩
  have HSH := Lib.hid hsh
  have B0 := B0a.later hb1
  have B1 := B1a.later hb1
  have B2 := B2a.later hb1
  have hbW := bel_then hbA hb1
  have T0 := Ta.below hb1
  have U0 := Ua.below hb1
  clear B0a B1a B2a Ta Ua hb1 hbA b0 b1 b2 b3 b4 b5 b6 b7 b8 hsh
  cases b
  · go_wp2_with fail
    go_ret
    exact ⟨rfl, hbW⟩
  have hnu := (HSH.out rfl).1
  clear HSH
  obtain ⟨b0, b1, b2, b3, b4, b5, b6, b7, b8⟩ := cells9 B1
  have z4 := B1.unfrozen 4
  obtain ⟨d0, d1, d2, d3, d4, d5, d6⟩ := cells7 B0
  have hss : s % 2 = 0 ∨ s % 2 = 1 := by omega
  have e1 := State.resets1 (c := c) (W0 := State.said (s % 2) t.sq t.ak (bits .or .i64 t.fl 4) t.nb) HR.out hss (State.has_or _)
  have E1 := Lib.hid e1
  have SS := Lib.hid hss
  have hg1 : w.heap.size + 1 < w4.heap.size := B1.lt
  clear e1 hss hr
  cases hl : State.live c
  · have h1 := step_at c c false (s % 2) t.sp t.dp t.sq t.ak (bits .or .i64 t.fl 4) t.wi t.ur t.Ao t.no t.co t.Ab t.nb t.cb (w4.setCell ⟨w.heap.size + 1, 4, none⟩ (.int .i64 (bits .or .i64 t.fl 4))) (by omega) (by rw [E1.out, hl]; rfl)
    go_wp2_with fail
    refine h1.mono ?_
    rintro e w5 ⟨rfl, hb5⟩
    have B0a := (B0.other (a := ⟨w.heap.size + 1, 4, none⟩) (by simp) (.int .i64 (bits .or .i64 t.fl 4))).later hb5
    have hbA := (hbW.setCell (p := ⟨w.heap.size + 1, 4, none⟩) (by simp) (.int .i64 (bits .or .i64 t.fl 4))).trans (hb5.mono (by simp; omega))
    clear h1 B0 B1 B2 hbW b0 b1 b2 b3 b4 b5 b6 b7 b8 d0 d1 d2 d3 d4 d5 d6 z4 hb5
    obtain ⟨d0, d1, d2, d3, d4, d5, d6⟩ := cells7 B0a
    have hg0 := B0a.lt
    have hst : c.st = 0 ∨ c.st = 6 ∨ c.st = 7 := by
      rcases State.right_st HR.out with e | e | e | e | e | e | e | e
      all_goals first | omega | (exfalso; unfold State.live at hl; rw [e] at hl; cases hl)
    have HL := Lib.hid hl
    clear hl
    obtain ⟨st, f0, f1, a0, a1, k0, k1⟩ := c
    simp only at hst d0 d1 d2 d3 d4 d5 d6
    rcases hst with rfl | rfl | rfl
    all_goals
      go_wp2_with fail
      go_ret
      exact ⟨rfl, hbA.alloc hbA.size _⟩
  · have hst : c.st = 1 ∨ c.st = 2 ∨ c.st = 3 ∨ c.st = 4 ∨ c.st = 5 := by
      rcases State.right_st HR.out with e | e | e | e | e | e | e | e
      all_goals first | omega | (exfalso; unfold State.live at hl; rw [e] at hl; cases hl)
    have h1 := step_at c (State.broken c) true (s % 2) t.sp t.dp t.sq t.ak (bits .or .i64 t.fl 4) t.wi t.ur t.Ao t.no t.co t.Ab t.nb t.cb (w4.setCell ⟨w.heap.size + 1, 4, none⟩ (.int .i64 (bits .or .i64 t.fl 4))) (by omega) (by rw [E1.out, hl]; rfl)
    have hs2 : s / 2 % 2 = 0 ∨ s / 2 % 2 = 1 := by omega
    have e2 := Lib.hid (State.resets2 (c := c) (W0 := State.said (s / 2 % 2) u.sq u.ak u.fl u.nb) HR.out hs2)
    have HF := Lib.hid (State.mask23 u.fl)
    have HB : Hid ((State.begins (State.said (s / 2 % 2) u.sq u.ak u.fl u.nb) && !(State.said (s / 2 % 2) u.sq u.ak u.fl u.nb).rst) = (s / 2 % 2 == 0 && bits .and .i64 u.fl 23 == 2)) := by
      show _ = _
      rw [HF.out]
      unfold State.begins State.said
      simp only
      cases (s / 2 % 2 == 0) <;> cases State.has u.fl 2 <;> cases State.has u.fl 16 <;> cases State.has u.fl 1 <;> cases State.has u.fl 4 <;> rfl
    have HS2 := Lib.hid hs2
    clear hs2
    go_wp2_with fail
    refine h1.mono ?_
    rintro e w5 ⟨rfl, hb5⟩
    have B0a := (B0.other (a := ⟨w.heap.size + 1, 4, none⟩) (by simp) (.int .i64 (bits .or .i64 t.fl 4))).later hb5
    have B2a := (B2.other (a := ⟨w.heap.size + 1, 4, none⟩) (by simp) (.int .i64 (bits .or .i64 t.fl 4))).later hb5
    have hbA := (hbW.setCell (p := ⟨w.heap.size + 1, 4, none⟩) (by simp) (.int .i64 (bits .or .i64 t.fl 4))).trans (hb5.mono (by simp; omega))
    clear h1 B0 B1 B2 hbW b0 b1 b2 b3 b4 b5 b6 b7 b8 d0 d1 d2 d3 d4 d5 d6 z4 hb5
    obtain ⟨d0, d1, d2, d3, d4, d5, d6⟩ := cells7 B0a
    obtain ⟨b0, b1, b2, b3, b4, b5, b6, b7, b8⟩ := cells9 B2a
    have hg0 := B0a.lt
    have hg2 := B2a.lt
    have n0 : (c.st == 0) = false := by rw [beq_eq_false_iff_ne]; omega
    have n6 : (c.st == 6) = false := by rw [beq_eq_false_iff_ne]; omega
    have n7 : (c.st == 7) = false := by rw [beq_eq_false_iff_ne]; omega
    have m0 : (c.st != 0) = true := by rw [bne_iff_ne]; omega
    have m6 : (c.st != 6) = true := by rw [bne_iff_ne]; omega
    have m7 : (c.st != 7) = true := by rw [bne_iff_ne]; omega
    clear hst hl
    have hk : (State.broken c).st = 7 := rfl
    rw [hk]
    have BN := Lib.hid (Blk.new w5 26 [.int .i64 7, .bool (State.broken c).f0, .bool (State.broken c).f1, .int .u32 (State.broken c).a0, .int .u32 (State.broken c).a1, .bool (State.broken c).k0, .bool (State.broken c).k1] _ rfl)
    go_wp2_with fail
    cases hq : (s / 2 % 2 == 0 && bits .and .i64 u.fl 23 == 2)
    · have h2 := fun w => step_at (State.broken c) (State.broken c) false (s / 2 % 2) u.sp u.dp u.sq u.ak u.fl u.wi u.ur u.Ao u.no u.co u.Ab u.nb u.cb w (by omega) (by rw [e2.out, HB.out, hq]; rfl)
      refine (h2 _).mono ?_
      rintro e w6 ⟨rfl, hb6⟩
      have BN6 := BN.out.later hb6; have B26 := (B2a.alloc _).later hb6; have hbF : Below w.heap.size w w6 := (hbA.alloc hbA.size _).trans (hb6.mono (by have := hbA.size; simp; omega)); clear h2 B0a B2a hbA b0 b1 b2 b3 b4 b5 b6 b7 b8 d0 d1 d2 d3 d4 d5 d6 hb6; obtain ⟨d0, d1, d2, d3, d4, d5, d6⟩ := cells7 BN6; obtain ⟨b0, b1, b2, b3, b4, b5, b6, b7, b8⟩ := cells9 B26; have hg5 := BN6.lt; have hg6 := B26.lt
      cases hq1 : (s / 2 % 2 == 0)
      · clear hq
        go_wp2_with fail
        go_ret
        exact ⟨rfl, hbF.alloc hbF.size _⟩
      · have hq2 : (bits .and .i64 u.fl 23 == 2) = false := by rw [hq1] at hq; simpa using hq
        clear hq
        go_wp2_with fail
        go_ret
        exact ⟨rfl, hbF.alloc hbF.size _⟩
    · have h2 := fun w => step_at (State.broken c) ⟨1, false, false, 0, 0, false, false⟩ true (s / 2 % 2) u.sp u.dp u.sq u.ak u.fl u.wi u.ur u.Ao u.no u.co u.Ab u.nb u.cb w (by omega) (by rw [e2.out, HB.out, hq]; rfl)
      refine (h2 _).mono ?_
      rintro e w6 ⟨rfl, hb6⟩
      have BN6 := BN.out.later hb6; have B26 := (B2a.alloc _).later hb6; have hbF : Below w.heap.size w w6 := (hbA.alloc hbA.size _).trans (hb6.mono (by have := hbA.size; simp; omega)); clear h2 B0a B2a hbA b0 b1 b2 b3 b4 b5 b6 b7 b8 d0 d1 d2 d3 d4 d5 d6 hb6; obtain ⟨d0, d1, d2, d3, d4, d5, d6⟩ := cells7 BN6; obtain ⟨b0, b1, b2, b3, b4, b5, b6, b7, b8⟩ := cells9 B26; have hg5 := BN6.lt; have hg6 := B26.lt
      rw [Bool.and_eq_true] at hq
      obtain ⟨hq1, hq2⟩ := hq
      go_wp2_with fail
      go_ret
      exact ⟨rfl, hbF.alloc hbF.size _⟩
end Go.Proofs.Ytliibpajgdncpaa
