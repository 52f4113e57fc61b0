/- The walk of the reference's Step for a right connection, side 1a (printed by tools/gen_rstep.py). -/
import Derived.Test.YtliibpajgdncpaaSRefB
namespace Go.Proofs.Ytliibpajgdncpaa
open Go.RowKit
set_option linter.unusedVariables false
set_option maxRecDepth 8000 in
set_option maxHeartbeats 16000000 in
theorem rstep_go1a (st a0 a1 : Int) (f0 f1 k0 k1 : Bool) (sp dp sq ak fl wi ur : Int) (Ao : Option Addr) (no co : Nat) (Ab : Option Addr) (nb cb : Nat) (sy ac fi rs : Bool) (bh : Int)
    (hfi : Hid ((bits .and .i64 fl 1 == 1) = fi)) (hsy : Hid ((bits .and .i64 fl 2 == 2) = sy)) (hrs : Hid ((bits .and .i64 fl 4 == 4) = rs)) (hac : Hid ((bits .and .i64 fl 16 == 16) = ac))
    (HBH : Hid (sy = false → fi = true → bh = (sq + nb + 1) % 4294967296)) (w : World) (hn : nb ≤ 4294967295) (hsq : 0 ≤ sq ∧ sq ≤ 4294967295) (hak : 0 ≤ ak ∧ ak ≤ 4294967295) (ha0 : 0 ≤ a0 ∧ a0 ≤ 4294967295) (ha1 : 0 ≤ a1 ∧ a1 ≤ 4294967295) (HR : Hid (State.rightB (⟨st, f0, f1, a0, a1, k0, k1⟩ : State.C) = true)) (hpart : Hid (st ≤ 2)) :
    Calls Try.prog 13 #[.agg #[.int .i64 (st), .bool f0, .bool f1, .int .u32 a0, .int .u32 a1, .bool k0, .bool k1], .int .i64 1, .agg #[.int .i64 sp, .int .i64 dp, .int .u32 sq, .int .u32 ak, .int .i64 fl, .int .i64 wi, .int .i64 ur, .slice Ao no co, .slice Ab nb cb]] w (TalkR (State.go (⟨st, f0, f1, a0, a1, k0, k1⟩ : State.C) ⟨1, sy, ac, fi, rs, bh, ak⟩).1 (State.go (⟨st, f0, f1, a0, a1, k0, k1⟩ : State.C) ⟨1, sy, ac, fi, rs, bh, ak⟩).2 w) := by
  obtain ⟨W, hW⟩ : ∃ W, W = ((w.alloc (.cells #[.int .i64 (st), .bool f0, .bool f1, .int .u32 a0, .int .u32 a1, .bool k0, .bool k1] 26)).alloc (.cells #[.int .i64 sp, .int .i64 dp, .int .u32 sq, .int .u32 ak, .int .i64 fl, .int .i64 wi, .int .i64 ur, .slice Ao no co, .slice Ab nb cb] 30)).alloc (.cells #[.int .i64 0, .bool false, .bool false, .int .u32 0, .int .u32 0, .bool false, .bool false] 26) := ⟨_, rfl⟩
  have M0 : SMem w W [.int .i64 (st), .bool f0, .bool f1, .int .u32 a0, .int .u32 a1, .bool k0, .bool k1] [.int .i64 sp, .int .i64 dp, .int .u32 sq, .int .u32 ak, .int .i64 fl, .int .i64 wi, .int .i64 ur, .slice Ao no co, .slice Ab nb cb] := (by rw [hW]; exact SMem.new w _ _)
  go_enter Try.func13, Try.ntmps13
  go_wp2_with fail
  rw [← hW]
  clear hW
  refine (rright_true (⟨st, f0, f1, a0, a1, k0, k1⟩ : State.C) _ ⟨ha0.1, ha1.1⟩ HR.out).mono ?_
  rintro e w1 ⟨rfl, hb1⟩
  have M1 := M0.later hb1
  clear M0 hb1
  go_upto_region 3 with fail
  go_cut [8, 9, 10, 11] (fun s8 s9 s10 s11 wx => s8 = .bool fi ∧ s9 = .bool sy ∧ s10 = .bool rs ∧ s11 = .bool ac ∧ SMem w wx [.int .i64 (st), .bool f0, .bool f1, .int .u32 a0, .int .u32 a1, .bool k0, .bool k1] [.int .i64 sp, .int .i64 dp, .int .u32 sq, .int .u32 ak, .int .i64 fl, .int .i64 wi, .int .i64 ur, .slice Ao no co, .slice Ab nb cb])
  case first =>
    as_aux_lemma =>
    have c4 := M1.b1.cell (i := 4) rfl
    have e1 := hfi.out
    have e2 := hsy.out
    have e4 := hrs.out
    have e16 := hac.out
    go_quiet (fail)
    go_wp2_with fail
    go_meet
    exact ⟨rfl, rfl, rfl, rfl, M1.drewN _⟩
  case rest =>
  clear M1
  obtain ⟨rfl, rfl, rfl, rfl, M⟩ := hcut
  have HST : Hid (st = 0 ∨ st = 1 ∨ st = 2) := Lib.hid (by have h1 := State.right_st HR.out; have h2 := hpart.out; simp only at h1; omega)
  clear hfi hsy hrs hac HR
  cases rs
  · obtain ⟨F, hF⟩ : ∃ F, State.begins ⟨1, sy, ac, fi, false, bh, ak⟩ = F := ⟨_, rfl⟩
    have HF0 := Lib.hid hF
    clear hF
    go_upto_region 9 with fail
    go_cut [12] (fun s12 wx => s12 = .bool F ∧ wx = wc)
    case first =>
      as_aux_lemma =>
      have hF := HF0.out
      cases sy <;> cases ac <;> cases fi
      all_goals
        subst hF
        go_wp2_with fail
        go_meet
        exact ⟨rfl, rfl⟩
    case rest =>
    obtain ⟨rfl, rfl⟩ := hcut
    cases F
    · have hst := HST.out
      clear HST
      rcases (show st = 0 ∨ st = 1 ∨ st = 2 by omega) with rfl | rfl | rfl
      · skip
        have HF : Hid (State.go (⟨0, f0, f1, a0, a1, k0, k1⟩ : State.C) ⟨1, sy, ac, fi, false, bh, ak⟩ = ((⟨0, f0, f1, a0, a1, k0, k1⟩ : State.C), false)) := Lib.hid (by show _ = _; unfold State.go; rw [HF0.out]; rfl)
        obtain ⟨b0, b1, b2, b3, b4, b5, b6⟩ := cells7 M.b0
        obtain ⟨z0, z1, z2, z3, z4, z5, z6⟩ := frozen7 M.b0
        obtain ⟨y0, y1, y2, y3, y4, y5, y6⟩ := cells7 M.b2
        obtain ⟨x0, x1, x2, x3, x4, x5, x6⟩ := frozen7 M.b2
        have hl0 := M.b0.lt
        have hl2 := M.b2.lt
        go_wp2_with fail
        exact bodyPost_ret (v := .tuple #[.agg #[.int .i64 (0), .bool f0, .bool f1, .int .u32 a0, .int .u32 a1, .bool k0, .bool k1], .bool false]) (by simp [results, Try.results13, go_sem, y0, y1, y2, y3, y4, y5, y6]) rfl (talkR_mk' (d' := (⟨0, f0, f1, a0, a1, k0, k1⟩ : State.C)) HF.out (by repeat (first | with_reducible exact M.bel | with_reducible refine Below.drewN ?_ _ | with_reducible refine Below.drew ?_ | with_reducible refine Below.setCell ?_ (by simp <;> omega) _ | with_reducible refine Below.alloc ?_ (by simp <;> omega) _)))
      · skip
        cases sy
        · skip
          have HF : Hid (State.go (⟨1, f0, f1, a0, a1, k0, k1⟩ : State.C) ⟨1, false, ac, fi, false, bh, ak⟩ = ((⟨1, f0, f1, a0, a1, k0, k1⟩ : State.C), false)) := Lib.hid (by show _ = _; unfold State.go; rw [HF0.out]; rfl)
          obtain ⟨b0, b1, b2, b3, b4, b5, b6⟩ := cells7 M.b0
          obtain ⟨z0, z1, z2, z3, z4, z5, z6⟩ := frozen7 M.b0
          obtain ⟨y0, y1, y2, y3, y4, y5, y6⟩ := cells7 M.b2
          obtain ⟨x0, x1, x2, x3, x4, x5, x6⟩ := frozen7 M.b2
          have hl0 := M.b0.lt
          have hl2 := M.b2.lt
          go_wp2_with fail
          exact bodyPost_ret (v := .tuple #[.agg #[.int .i64 (1), .bool f0, .bool f1, .int .u32 a0, .int .u32 a1, .bool k0, .bool k1], .bool false]) (by simp [results, Try.results13, go_sem, y0, y1, y2, y3, y4, y5, y6]) rfl (talkR_mk' (d' := (⟨1, f0, f1, a0, a1, k0, k1⟩ : State.C)) HF.out (by repeat (first | with_reducible exact M.bel | with_reducible refine Below.drewN ?_ _ | with_reducible refine Below.drew ?_ | with_reducible refine Below.setCell ?_ (by simp <;> omega) _ | with_reducible refine Below.alloc ?_ (by simp <;> omega) _)))
        · cases fi
          · skip
            have HF : Hid (State.go (⟨1, f0, f1, a0, a1, k0, k1⟩ : State.C) ⟨1, true, ac, false, false, bh, ak⟩ = ((⟨2, f0, f1, a0, a1, k0, k1⟩ : State.C), true)) := Lib.hid (by show _ = _; unfold State.go; rw [HF0.out]; rfl)
            obtain ⟨b0, b1, b2, b3, b4, b5, b6⟩ := cells7 M.b0
            obtain ⟨z0, z1, z2, z3, z4, z5, z6⟩ := frozen7 M.b0
            obtain ⟨y0, y1, y2, y3, y4, y5, y6⟩ := cells7 M.b2
            obtain ⟨x0, x1, x2, x3, x4, x5, x6⟩ := frozen7 M.b2
            have hl0 := M.b0.lt
            have hl2 := M.b2.lt
            go_wp2_with fail
            exact bodyPost_ret (v := .tuple #[.agg #[.int .i64 (2), .bool f0, .bool f1, .int .u32 a0, .int .u32 a1, .bool k0, .bool k1], .bool true]) (by simp [results, Try.results13, go_sem, y0, y1, y2, y3, y4, y5, y6]) rfl (talkR_mk' (d' := (⟨2, f0, f1, a0, a1, k0, k1⟩ : State.C)) HF.out (by repeat (first | with_reducible exact M.bel | with_reducible refine Below.drewN ?_ _ | with_reducible refine Below.drew ?_ | with_reducible refine Below.setCell ?_ (by simp <;> omega) _ | with_reducible refine Below.alloc ?_ (by simp <;> omega) _)))
          · skip
            have HF : Hid (State.go (⟨1, f0, f1, a0, a1, k0, k1⟩ : State.C) ⟨1, true, ac, true, false, bh, ak⟩ = ((⟨1, f0, f1, a0, a1, k0, k1⟩ : State.C), false)) := Lib.hid (by show _ = _; unfold State.go; rw [HF0.out]; rfl)
            obtain ⟨b0, b1, b2, b3, b4, b5, b6⟩ := cells7 M.b0
            obtain ⟨z0, z1, z2, z3, z4, z5, z6⟩ := frozen7 M.b0
            obtain ⟨y0, y1, y2, y3, y4, y5, y6⟩ := cells7 M.b2
            obtain ⟨x0, x1, x2, x3, x4, x5, x6⟩ := frozen7 M.b2
            have hl0 := M.b0.lt
            have hl2 := M.b2.lt
            go_wp2_with fail
            exact bodyPost_ret (v := .tuple #[.agg #[.int .i64 (1), .bool f0, .bool f1, .int .u32 a0, .int .u32 a1, .bool k0, .bool k1], .bool false]) (by simp [results, Try.results13, go_sem, y0, y1, y2, y3, y4, y5, y6]) rfl (talkR_mk' (d' := (⟨1, f0, f1, a0, a1, k0, k1⟩ : State.C)) HF.out (by repeat (first | with_reducible exact M.bel | with_reducible refine Below.drewN ?_ _ | with_reducible refine Below.drew ?_ | with_reducible refine Below.setCell ?_ (by simp <;> omega) _ | with_reducible refine Below.alloc ?_ (by simp <;> omega) _)))
      · cases sy
        · skip
          cases ac
          · skip
            have HF : Hid (State.go (⟨2, f0, f1, a0, a1, k0, k1⟩ : State.C) ⟨1, false, false, fi, false, bh, ak⟩ = ((⟨2, f0, f1, a0, a1, k0, k1⟩ : State.C), false)) := Lib.hid (by show _ = _; unfold State.go; rw [HF0.out]; rfl)
            obtain ⟨b0, b1, b2, b3, b4, b5, b6⟩ := cells7 M.b0
            obtain ⟨z0, z1, z2, z3, z4, z5, z6⟩ := frozen7 M.b0
            obtain ⟨y0, y1, y2, y3, y4, y5, y6⟩ := cells7 M.b2
            obtain ⟨x0, x1, x2, x3, x4, x5, x6⟩ := frozen7 M.b2
            have hl0 := M.b0.lt
            have hl2 := M.b2.lt
            go_wp2_with fail
            exact bodyPost_ret (v := .tuple #[.agg #[.int .i64 (2), .bool f0, .bool f1, .int .u32 a0, .int .u32 a1, .bool k0, .bool k1], .bool false]) (by simp [results, Try.results13, go_sem, y0, y1, y2, y3, y4, y5, y6]) rfl (talkR_mk' (d' := (⟨2, f0, f1, a0, a1, k0, k1⟩ : State.C)) HF.out (by repeat (first | with_reducible exact M.bel | with_reducible refine Below.drewN ?_ _ | with_reducible refine Below.drew ?_ | with_reducible refine Below.setCell ?_ (by simp <;> omega) _ | with_reducible refine Below.alloc ?_ (by simp <;> omega) _)))
          · cases fi
            · skip
              have HF : Hid (State.go (⟨2, f0, f1, a0, a1, k0, k1⟩ : State.C) ⟨1, false, true, false, false, bh, ak⟩ = ((⟨2, f0, f1, a0, a1, k0, k1⟩ : State.C), true)) := Lib.hid (by show _ = _; unfold State.go; rw [HF0.out]; rfl)
              obtain ⟨b0, b1, b2, b3, b4, b5, b6⟩ := cells7 M.b0
              obtain ⟨z0, z1, z2, z3, z4, z5, z6⟩ := frozen7 M.b0
              obtain ⟨y0, y1, y2, y3, y4, y5, y6⟩ := cells7 M.b2
              obtain ⟨x0, x1, x2, x3, x4, x5, x6⟩ := frozen7 M.b2
              have hl0 := M.b0.lt
              have hl2 := M.b2.lt
              go_wp2_with fail
              exact bodyPost_ret (v := .tuple #[.agg #[.int .i64 (2), .bool f0, .bool f1, .int .u32 a0, .int .u32 a1, .bool k0, .bool k1], .bool true]) (by simp [results, Try.results13, go_sem, y0, y1, y2, y3, y4, y5, y6]) rfl (talkR_mk' (d' := (⟨2, f0, f1, a0, a1, k0, k1⟩ : State.C)) HF.out (by repeat (first | with_reducible exact M.bel | with_reducible refine Below.drewN ?_ _ | with_reducible refine Below.drew ?_ | with_reducible refine Below.setCell ?_ (by simp <;> omega) _ | with_reducible refine Below.alloc ?_ (by simp <;> omega) _)))
            · skip
              have HF : Hid (State.go (⟨2, f0, f1, a0, a1, k0, k1⟩ : State.C) ⟨1, false, true, true, false, bh, ak⟩ = ((⟨2, f0, f1, a0, a1, k0, k1⟩ : State.C), false)) := Lib.hid (by show _ = _; unfold State.go; rw [HF0.out]; rfl)
              obtain ⟨b0, b1, b2, b3, b4, b5, b6⟩ := cells7 M.b0
              obtain ⟨z0, z1, z2, z3, z4, z5, z6⟩ := frozen7 M.b0
              obtain ⟨y0, y1, y2, y3, y4, y5, y6⟩ := cells7 M.b2
              obtain ⟨x0, x1, x2, x3, x4, x5, x6⟩ := frozen7 M.b2
              have hl0 := M.b0.lt
              have hl2 := M.b2.lt
              go_wp2_with fail
              exact bodyPost_ret (v := .tuple #[.agg #[.int .i64 (2), .bool f0, .bool f1, .int .u32 a0, .int .u32 a1, .bool k0, .bool k1], .bool false]) (by simp [results, Try.results13, go_sem, y0, y1, y2, y3, y4, y5, y6]) rfl (talkR_mk' (d' := (⟨2, f0, f1, a0, a1, k0, k1⟩ : State.C)) HF.out (by repeat (first | with_reducible exact M.bel | with_reducible refine Below.drewN ?_ _ | with_reducible refine Below.drew ?_ | with_reducible refine Below.setCell ?_ (by simp <;> omega) _ | with_reducible refine Below.alloc ?_ (by simp <;> omega) _)))
        · skip
          cases fi
          · skip
            have HF : Hid (State.go (⟨2, f0, f1, a0, a1, k0, k1⟩ : State.C) ⟨1, true, ac, false, false, bh, ak⟩ = ((⟨2, f0, f1, a0, a1, k0, k1⟩ : State.C), true)) := Lib.hid (by show _ = _; unfold State.go; rw [HF0.out]; rfl)
            obtain ⟨b0, b1, b2, b3, b4, b5, b6⟩ := cells7 M.b0
            obtain ⟨z0, z1, z2, z3, z4, z5, z6⟩ := frozen7 M.b0
            obtain ⟨y0, y1, y2, y3, y4, y5, y6⟩ := cells7 M.b2
            obtain ⟨x0, x1, x2, x3, x4, x5, x6⟩ := frozen7 M.b2
            have hl0 := M.b0.lt
            have hl2 := M.b2.lt
            go_wp2_with fail
            exact bodyPost_ret (v := .tuple #[.agg #[.int .i64 (2), .bool f0, .bool f1, .int .u32 a0, .int .u32 a1, .bool k0, .bool k1], .bool true]) (by simp [results, Try.results13, go_sem, y0, y1, y2, y3, y4, y5, y6]) rfl (talkR_mk' (d' := (⟨2, f0, f1, a0, a1, k0, k1⟩ : State.C)) HF.out (by repeat (first | with_reducible exact M.bel | with_reducible refine Below.drewN ?_ _ | with_reducible refine Below.drew ?_ | with_reducible refine Below.setCell ?_ (by simp <;> omega) _ | with_reducible refine Below.alloc ?_ (by simp <;> omega) _)))
          · skip
            have HF : Hid (State.go (⟨2, f0, f1, a0, a1, k0, k1⟩ : State.C) ⟨1, true, ac, true, false, bh, ak⟩ = ((⟨2, f0, f1, a0, a1, k0, k1⟩ : State.C), false)) := Lib.hid (by show _ = _; unfold State.go; rw [HF0.out]; rfl)
            obtain ⟨b0, b1, b2, b3, b4, b5, b6⟩ := cells7 M.b0
            obtain ⟨z0, z1, z2, z3, z4, z5, z6⟩ := frozen7 M.b0
            obtain ⟨y0, y1, y2, y3, y4, y5, y6⟩ := cells7 M.b2
            obtain ⟨x0, x1, x2, x3, x4, x5, x6⟩ := frozen7 M.b2
            have hl0 := M.b0.lt
            have hl2 := M.b2.lt
            go_wp2_with fail
            exact bodyPost_ret (v := .tuple #[.agg #[.int .i64 (2), .bool f0, .bool f1, .int .u32 a0, .int .u32 a1, .bool k0, .bool k1], .bool false]) (by simp [results, Try.results13, go_sem, y0, y1, y2, y3, y4, y5, y6]) rfl (talkR_mk' (d' := (⟨2, f0, f1, a0, a1, k0, k1⟩ : State.C)) HF.out (by repeat (first | with_reducible exact M.bel | with_reducible refine Below.drewN ?_ _ | with_reducible refine Below.drew ?_ | with_reducible refine Below.setCell ?_ (by simp <;> omega) _ | with_reducible refine Below.alloc ?_ (by simp <;> omega) _)))
    · exfalso
      have := HF0.out
      unfold State.begins at this
      simp at this
  · have hst := HST.out
    clear HST
    rcases hst with rfl | rfl | rfl
    · skip
      have HF : Hid (State.go (⟨0, f0, f1, a0, a1, k0, k1⟩ : State.C) ⟨1, sy, ac, fi, true, bh, ak⟩ = ((⟨0, f0, f1, a0, a1, k0, k1⟩ : State.C), false)) := Lib.hid (by rfl)
      obtain ⟨b0, b1, b2, b3, b4, b5, b6⟩ := cells7 M.b0
      obtain ⟨z0, z1, z2, z3, z4, z5, z6⟩ := frozen7 M.b0
      obtain ⟨y0, y1, y2, y3, y4, y5, y6⟩ := cells7 M.b2
      obtain ⟨x0, x1, x2, x3, x4, x5, x6⟩ := frozen7 M.b2
      have hl0 := M.b0.lt
      have hl2 := M.b2.lt
      go_wp2_with fail
      exact bodyPost_ret (v := .tuple #[.agg #[.int .i64 (0), .bool f0, .bool f1, .int .u32 a0, .int .u32 a1, .bool k0, .bool k1], .bool false]) (by simp [results, Try.results13, go_sem, y0, y1, y2, y3, y4, y5, y6]) rfl (talkR_mk' (d' := (⟨0, f0, f1, a0, a1, k0, k1⟩ : State.C)) HF.out (by repeat (first | with_reducible exact M.bel | with_reducible refine Below.drewN ?_ _ | with_reducible refine Below.drew ?_ | with_reducible refine Below.setCell ?_ (by simp <;> omega) _ | with_reducible refine Below.alloc ?_ (by simp <;> omega) _)))
    · skip
      have HF : Hid (State.go (⟨1, f0, f1, a0, a1, k0, k1⟩ : State.C) ⟨1, sy, ac, fi, true, bh, ak⟩ = ((⟨7, f0, f1, a0, a1, k0, k1⟩ : State.C), true)) := Lib.hid (by rfl)
      obtain ⟨b0, b1, b2, b3, b4, b5, b6⟩ := cells7 M.b0
      obtain ⟨z0, z1, z2, z3, z4, z5, z6⟩ := frozen7 M.b0
      obtain ⟨y0, y1, y2, y3, y4, y5, y6⟩ := cells7 M.b2
      obtain ⟨x0, x1, x2, x3, x4, x5, x6⟩ := frozen7 M.b2
      have hl0 := M.b0.lt
      have hl2 := M.b2.lt
      go_wp2_with fail
      exact bodyPost_ret (v := .tuple #[.agg #[.int .i64 (7), .bool f0, .bool f1, .int .u32 a0, .int .u32 a1, .bool k0, .bool k1], .bool true]) (by simp [results, Try.results13, go_sem, y0, y1, y2, y3, y4, y5, y6]) rfl (talkR_mk' (d' := (⟨7, f0, f1, a0, a1, k0, k1⟩ : State.C)) HF.out (by repeat (first | with_reducible exact M.bel | with_reducible refine Below.drewN ?_ _ | with_reducible refine Below.drew ?_ | with_reducible refine Below.setCell ?_ (by simp <;> omega) _ | with_reducible refine Below.alloc ?_ (by simp <;> omega) _)))
    · skip
      have HF : Hid (State.go (⟨2, f0, f1, a0, a1, k0, k1⟩ : State.C) ⟨1, sy, ac, fi, true, bh, ak⟩ = ((⟨7, f0, f1, a0, a1, k0, k1⟩ : State.C), true)) := Lib.hid (by rfl)
      obtain ⟨b0, b1, b2, b3, b4, b5, b6⟩ := cells7 M.b0
      obtain ⟨z0, z1, z2, z3, z4, z5, z6⟩ := frozen7 M.b0
      obtain ⟨y0, y1, y2, y3, y4, y5, y6⟩ := cells7 M.b2
      obtain ⟨x0, x1, x2, x3, x4, x5, x6⟩ := frozen7 M.b2
      have hl0 := M.b0.lt
      have hl2 := M.b2.lt
      go_wp2_with fail
      exact bodyPost_ret (v := .tuple #[.agg #[.int .i64 (7), .bool f0, .bool f1, .int .u32 a0, .int .u32 a1, .bool k0, .bool k1], .bool true]) (by simp [results, Try.results13, go_sem, y0, y1, y2, y3, y4, y5, y6]) rfl (talkR_mk' (d' := (⟨7, f0, f1, a0, a1, k0, k1⟩ : State.C)) HF.out (by repeat (first | with_reducible exact M.bel | with_reducible refine Below.drewN ?_ _ | with_reducible refine Below.drew ?_ | with_reducible refine Below.setCell ?_ (by simp <;> omega) _ | with_reducible refine Below.alloc ?_ (by simp <;> omega) _)))
end Go.Proofs.Ytliibpajgdncpaa
