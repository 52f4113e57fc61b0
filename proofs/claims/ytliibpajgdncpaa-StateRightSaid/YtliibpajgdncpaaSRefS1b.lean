/- The walk of the reference's Step for a right connection, side 1b (printed by tools/gen_rstep.py). -/
import Derived.Test.YtliibpajgdncpaaSRefB
namespace Go.Proofs.Ytliibpajgdncpaa
open Go.RowKit
set_option linter.unusedVariables false
set_option maxRecDepth 8000 in
set_option maxHeartbeats 16000000 in
theorem rstep_go1b (st a0 a1 : Int) (f0 f1 k0 k1 : Bool) (sp dp sq ak fl wi ur : Int) (Ao : Option Addr) (no co : Nat) (Ab : Option Addr) (nb cb : Nat) (sy ac fi rs : Bool) (bh : Int)
    (hfi : Hid ((bits .and .i64 fl 1 == 1) = fi)) (hsy : Hid ((bits .and .i64 fl 2 == 2) = sy)) (hrs : Hid ((bits .and .i64 fl 4 == 4) = rs)) (hac : Hid ((bits .and .i64 fl 16 == 16) = ac))
    (HBH : Hid (sy = false → fi = true → bh = (sq + nb + 1) % 4294967296)) (w : World) (hn : nb ≤ 4294967295) (hsq : 0 ≤ sq ∧ sq ≤ 4294967295) (hak : 0 ≤ ak ∧ ak ≤ 4294967295) (ha0 : 0 ≤ a0 ∧ a0 ≤ 4294967295) (ha1 : 0 ≤ a1 ∧ a1 ≤ 4294967295) (HR : Hid (State.rightB (⟨st, f0, f1, a0, a1, k0, k1⟩ : State.C) = true)) (hpart : Hid (3 ≤ st)) :
    Calls Try.prog 13 #[.agg #[.int .i64 (st), .bool f0, .bool f1, .int .u32 a0, .int .u32 a1, .bool k0, .bool k1], .int .i64 1, .agg #[.int .i64 sp, .int .i64 dp, .int .u32 sq, .int .u32 ak, .int .i64 fl, .int .i64 wi, .int .i64 ur, .slice Ao no co, .slice Ab nb cb]] w (TalkR (State.go (⟨st, f0, f1, a0, a1, k0, k1⟩ : State.C) ⟨1, sy, ac, fi, rs, bh, ak⟩).1 (State.go (⟨st, f0, f1, a0, a1, k0, k1⟩ : State.C) ⟨1, sy, ac, fi, rs, bh, ak⟩).2 w) := by
  obtain ⟨W, hW⟩ : ∃ W, W = ((w.alloc (.cells #[.int .i64 (st), .bool f0, .bool f1, .int .u32 a0, .int .u32 a1, .bool k0, .bool k1] 26)).alloc (.cells #[.int .i64 sp, .int .i64 dp, .int .u32 sq, .int .u32 ak, .int .i64 fl, .int .i64 wi, .int .i64 ur, .slice Ao no co, .slice Ab nb cb] 30)).alloc (.cells #[.int .i64 0, .bool false, .bool false, .int .u32 0, .int .u32 0, .bool false, .bool false] 26) := ⟨_, rfl⟩
  have M0 : SMem w W [.int .i64 (st), .bool f0, .bool f1, .int .u32 a0, .int .u32 a1, .bool k0, .bool k1] [.int .i64 sp, .int .i64 dp, .int .u32 sq, .int .u32 ak, .int .i64 fl, .int .i64 wi, .int .i64 ur, .slice Ao no co, .slice Ab nb cb] := (by rw [hW]; exact SMem.new w _ _)
  go_enter Try.func13, Try.ntmps13
  go_wp2_with fail
  rw [← hW]
  clear hW
  refine (rright_true (⟨st, f0, f1, a0, a1, k0, k1⟩ : State.C) _ ⟨ha0.1, ha1.1⟩ HR.out).mono ?_
  rintro e w1 ⟨rfl, hb1⟩
  have M1 := M0.later hb1
  clear M0 hb1
  go_upto_region 3 with fail
  go_cut [8, 9, 10, 11] (fun s8 s9 s10 s11 wx => s8 = .bool fi ∧ s9 = .bool sy ∧ s10 = .bool rs ∧ s11 = .bool ac ∧ SMem w wx [.int .i64 (st), .bool f0, .bool f1, .int .u32 a0, .int .u32 a1, .bool k0, .bool k1] [.int .i64 sp, .int .i64 dp, .int .u32 sq, .int .u32 ak, .int .i64 fl, .int .i64 wi, .int .i64 ur, .slice Ao no co, .slice Ab nb cb])
  case first =>
    as_aux_lemma =>
    have c4 := M1.b1.cell (i := 4) rfl
    have e1 := hfi.out
    have e2 := hsy.out
    have e4 := hrs.out
    have e16 := hac.out
    go_quiet (fail)
    go_wp2_with fail
    go_meet
    exact ⟨rfl, rfl, rfl, rfl, M1.drewN _⟩
  case rest =>
  clear M1
  obtain ⟨rfl, rfl, rfl, rfl, M⟩ := hcut
  have HST : Hid (st = 3 ∨ st = 4 ∨ st = 5 ∨ st = 6 ∨ st = 7) := Lib.hid (by have h1 := State.right_st HR.out; have h2 := hpart.out; simp only at h1; omega)
  clear hfi hsy hrs hac HR
  cases rs
  · obtain ⟨F, hF⟩ : ∃ F, State.begins ⟨1, sy, ac, fi, false, bh, ak⟩ = F := ⟨_, rfl⟩
    have HF0 := Lib.hid hF
    clear hF
    go_upto_region 9 with fail
    go_cut [12] (fun s12 wx => s12 = .bool F ∧ wx = wc)
    case first =>
      as_aux_lemma =>
      have hF := HF0.out
      cases sy <;> cases ac <;> cases fi
      all_goals
        subst hF
        go_wp2_with fail
        go_meet
        exact ⟨rfl, rfl⟩
    case rest =>
    obtain ⟨rfl, rfl⟩ := hcut
    cases F
    · have hst := HST.out
      clear HST
      rcases (show st = 7 ∨ (3 ≤ st ∧ st ≤ 6) by omega) with rfl | ⟨h3, h6⟩
      · skip
        have HF : Hid (State.go (⟨7, f0, f1, a0, a1, k0, k1⟩ : State.C) ⟨1, sy, ac, fi, false, bh, ak⟩ = ((⟨7, f0, f1, a0, a1, k0, k1⟩ : State.C), false)) := Lib.hid (by show _ = _; unfold State.go; rw [HF0.out]; rfl)
        obtain ⟨b0, b1, b2, b3, b4, b5, b6⟩ := cells7 M.b0
        obtain ⟨z0, z1, z2, z3, z4, z5, z6⟩ := frozen7 M.b0
        obtain ⟨y0, y1, y2, y3, y4, y5, y6⟩ := cells7 M.b2
        obtain ⟨x0, x1, x2, x3, x4, x5, x6⟩ := frozen7 M.b2
        have hl0 := M.b0.lt
        have hl2 := M.b2.lt
        go_wp2_with fail
        exact bodyPost_ret (v := .tuple #[.agg #[.int .i64 (7), .bool f0, .bool f1, .int .u32 a0, .int .u32 a1, .bool k0, .bool k1], .bool false]) (by simp [results, Try.results13, go_sem, y0, y1, y2, y3, y4, y5, y6]) rfl (talkR_mk' (d' := (⟨7, f0, f1, a0, a1, k0, k1⟩ : State.C)) HF.out (by repeat (first | with_reducible exact M.bel | with_reducible refine Below.drewN ?_ _ | with_reducible refine Below.drew ?_ | with_reducible refine Below.setCell ?_ (by simp <;> omega) _ | with_reducible refine Below.alloc ?_ (by simp <;> omega) _)))
      · cases sy
        · cases ac
          · skip
            have n0 : (st == 0) = false := by rw [beq_eq_false_iff_ne]; omega
            have n1 : (st == 1) = false := by rw [beq_eq_false_iff_ne]; omega
            have n2 : (st == 2) = false := by rw [beq_eq_false_iff_ne]; omega
            have n7 : (st == 7) = false := by rw [beq_eq_false_iff_ne]; omega
            have HF : Hid (State.go (⟨st, f0, f1, a0, a1, k0, k1⟩ : State.C) ⟨1, false, false, fi, false, bh, ak⟩ = ((⟨st, f0, f1, a0, a1, k0, k1⟩ : State.C), false)) := Lib.hid (by rw [State.go_talk HF0.out rfl h3 h6]; rfl)
            obtain ⟨b0, b1, b2, b3, b4, b5, b6⟩ := cells7 M.b0
            obtain ⟨z0, z1, z2, z3, z4, z5, z6⟩ := frozen7 M.b0
            obtain ⟨y0, y1, y2, y3, y4, y5, y6⟩ := cells7 M.b2
            obtain ⟨x0, x1, x2, x3, x4, x5, x6⟩ := frozen7 M.b2
            have hl0 := M.b0.lt
            have hl2 := M.b2.lt
            go_wp2_with fail
            exact bodyPost_ret (v := .tuple #[.agg #[.int .i64 (st), .bool f0, .bool f1, .int .u32 a0, .int .u32 a1, .bool k0, .bool k1], .bool false]) (by simp [results, Try.results13, go_sem, y0, y1, y2, y3, y4, y5, y6]) rfl (talkR_mk' (d' := (⟨st, f0, f1, a0, a1, k0, k1⟩ : State.C)) HF.out (by repeat (first | with_reducible exact M.bel | with_reducible refine Below.drewN ?_ _ | with_reducible refine Below.drew ?_ | with_reducible refine Below.setCell ?_ (by simp <;> omega) _ | with_reducible refine Below.alloc ?_ (by simp <;> omega) _)))
          · skip
            have HT : Hid (State.go (⟨st, f0, f1, a0, a1, k0, k1⟩ : State.C) ⟨1, false, true, fi, false, bh, ak⟩ = State.talk (⟨st, f0, f1, a0, a1, k0, k1⟩ : State.C) ⟨1, false, true, fi, false, bh, ak⟩) := Lib.hid (by exact State.go_talk HF0.out rfl h3 h6)
            clear HF0
            have n0 : (st == 0) = false := by rw [beq_eq_false_iff_ne]; omega
            have n1 : (st == 1) = false := by rw [beq_eq_false_iff_ne]; omega
            have n2 : (st == 2) = false := by rw [beq_eq_false_iff_ne]; omega
            have n7 : (st == 7) = false := by rw [beq_eq_false_iff_ne]; omega
            have b0 := M.b0.cell (i := 0) rfl
            go_upto_region 25 with fail
            clear n0 n1 n2 n7
            clear b0
            go_cut [139] (fun s139 wx => s139 = .bool (fi && !f1) ∧ wx = wc)
            case first =>
              as_aux_lemma =>
              have b1 := M.b0.cell (i := 2) rfl
              cases fi <;> cases f1
              all_goals
                go_wp2_with fail
                go_meet
                exact ⟨rfl, rfl⟩
            case rest =>
            obtain ⟨rfl, rfl⟩ := hcut
            have hbh : 0 ≤ (sq + nb + 1) % 4294967296 ∧ (sq + nb + 1) % 4294967296 ≤ 4294967295 := by omega
            obtain ⟨d, hd⟩ : ∃ d, State.endNow (⟨st, f0, f1, a0, a1, k0, k1⟩ : State.C) ⟨1, false, true, fi, false, bh, ak⟩ = d := ⟨_, rfl⟩
            have HD := Lib.hid hd
            have hdb : (0 ≤ d.a0 ∧ d.a0 ≤ 4294967295) ∧ (0 ≤ d.a1 ∧ d.a1 ≤ 4294967295) := by
              rw [← hd]
              unfold State.endNow State.finOf
              cases fi <;> cases f1 <;> first | exact ⟨ha0, ha1⟩ | (rw [HBH.out rfl rfl]; first | exact ⟨hbh, ha1⟩ | exact ⟨ha0, hbh⟩)
            clear hd
            go_upto_if 139 with fail
            go_cut [13] (fun s13 wx => SMem w wx d.cells [.int .i64 sp, .int .i64 dp, .int .u32 sq, .int .u32 ak, .int .i64 fl, .int .i64 wi, .int .i64 ur, .slice Ao no co, .slice Ab nb cb])
            case first =>
              as_aux_lemma =>
              have c2 := M.b1.cell (i := 2) rfl
              have c8 := M.b1.cell (i := 8) rfl
              obtain ⟨z0, z1, z2, z3, z4, z5, z6⟩ := frozen7 M.b0
              have hl0 := M.b0.lt
              obtain ⟨b0, b1, b2, b3, b4, b5, b6⟩ := cells7 M.b0
              obtain ⟨hsq0, hsq1⟩ := hsq
              have hd := HD.out
              unfold State.endNow State.finOf at hd
              cases fi <;> cases f1
              · subst hd
                go_wp2_with fail
                go_meet
                exact M
              · subst hd
                go_wp2_with fail
                go_meet
                exact M
              · rw [HBH.out rfl rfl] at hd
                subst hd
                go_wp2_with fail
                refine (rwrap_spec _ _ (by omega) (by omega)).mono ?_
                rintro e w' ⟨rfl, rfl⟩
                go_wp2_with fail
                go_meet
                exact (M.put 2 _).put 4 _
              · subst hd
                go_wp2_with fail
                go_meet
                exact M
            case rest =>
            clear M
            have M := hcut
            clear hcut
            have HT2 : Hid (State.talk (⟨st, f0, f1, a0, a1, k0, k1⟩ : State.C) ⟨1, false, true, fi, false, bh, ak⟩ = ({ State.ackNow d ⟨1, false, true, fi, false, bh, ak⟩ with st := if State.acks (State.ackNow d ⟨1, false, true, fi, false, bh, ak⟩) = 2 then 6 else 3 + State.fins (State.ackNow d ⟨1, false, true, fi, false, bh, ak⟩) }, true)) := Lib.hid (by unfold State.talk; rw [HD.out]; rfl)
            have HT3 := Lib.hid (HT.out.trans HT2.out)
            clear HT HT2 HD
            go_upto_region 29 with fail
            go_cut [170] (fun s170 wx => s170 = .bool (d.f0 && decide (0 ≤ Seq.dist d.a0 ak)) ∧ SMem w wx d.cells [.int .i64 sp, .int .i64 dp, .int .u32 sq, .int .u32 ak, .int .i64 fl, .int .i64 wi, .int .i64 ur, .slice Ao no co, .slice Ab nb cb])
            case first =>
              as_aux_lemma =>
              have c3 := M.b1.cell (i := 3) rfl
              obtain ⟨b0, b1, b2, b3, b4, b5, b6⟩ := cells7 M.b0
              obtain ⟨W9, hW9⟩ : ∃ W9, W9 = wc := ⟨_, rfl⟩
              have HQ : Hid (∀ q, Calls Try.prog 29 #[.int .u32 d.a0, .int .u32 ak] (wc.drewN q) (fun e w'' => e = .returned (.int .i64 (Seq.dist d.a0 ak)) ∧ ∃ k, w'' = wc.drewN k)) := Lib.hid fun q => (rdist_spec d.a0 ak _ hdb.1 hak).mono (fun e w' ⟨h1, h2⟩ => ⟨h1, q, h2.symm⟩)
              clear hW9
              cases hf : d.f0
              · rw [hf] at b1
                have HFF := Lib.hid hf
                clear hf
                go_wp2_with fail
                go_quiet (fail)
                go_wp2_with fail
                go_meet
                exact ⟨by rw [HFF.out]; rfl, M.drewN _⟩
              · rw [hf] at b1
                have HFF := Lib.hid hf
                clear hf
                go_wp2_with fail
                go_quiet ((with_reducible exact HQ.out _))
                go_wp2_with fail
                go_meet
                exact ⟨by rw [HFF.out]; simp, M.drewN _⟩
            case rest =>
            clear M
            obtain ⟨rfl, M⟩ := hcut
            obtain ⟨g, hg⟩ : ∃ g, State.ackNow d ⟨1, false, true, fi, false, bh, ak⟩ = g := ⟨_, rfl⟩
            rw [hg] at HT3
            have HG := Lib.hid hg
            clear hg
            go_upto_if 170 with fail
            go_cut [13] (fun s13 wx => SMem w wx g.cells [.int .i64 sp, .int .i64 dp, .int .u32 sq, .int .u32 ak, .int .i64 fl, .int .i64 wi, .int .i64 ur, .slice Ao no co, .slice Ab nb cb])
            case first =>
              as_aux_lemma =>
              obtain ⟨z0, z1, z2, z3, z4, z5, z6⟩ := frozen7 M.b0
              obtain ⟨b0, b1, b2, b3, b4, b5, b6⟩ := cells7 M.b0
              have hl0 := M.b0.lt
              have hg := HG.out
              unfold State.ackNow at hg
              rw [if_neg (show ¬ ((1 : Int) = 0) by decide)] at hg
              cases hq : (d.f0 && decide (0 ≤ Seq.dist d.a0 ak))
              · simp only [hq, Bool.false_eq_true, if_false] at hg
                subst hg
                clear hq
                go_wp2_with fail
                go_meet
                exact M
              · simp only [hq, if_true] at hg
                subst hg
                clear hq
                go_wp2_with fail
                go_meet
                exact M.put 5 _
            case rest =>
            clear M
            have M := hcut
            clear hcut HG hdb hbh
            go_upto_region 31 with fail
            go_cut [13] (fun s13 wx => SMem w wx { g with st := 3 + State.fins g }.cells [.int .i64 sp, .int .i64 dp, .int .u32 sq, .int .u32 ak, .int .i64 fl, .int .i64 wi, .int .i64 ur, .slice Ao no co, .slice Ab nb cb])
            case first =>
              as_aux_lemma =>
              obtain ⟨z0, z1, z2, z3, z4, z5, z6⟩ := frozen7 M.b0
              obtain ⟨b0, b1, b2, b3, b4, b5, b6⟩ := cells7 M.b0
              have hl0 := M.b0.lt
              have H0 := fun w => rone_spec g.f0 w
              have H1 := fun w => rone_spec g.f1 w
              obtain ⟨s0, hs0⟩ : ∃ s0, s0 = State.bi g.f0 := ⟨_, rfl⟩
              obtain ⟨s1, hs1⟩ : ∃ s1, s1 = State.bi g.f1 := ⟨_, rfl⟩
              have hs0b : 0 ≤ s0 ∧ s0 ≤ 1 := by rw [hs0]; unfold State.bi; split <;> omega
              have hs1b : 0 ≤ s1 ∧ s1 ≤ 1 := by rw [hs1]; unfold State.bi; split <;> omega
              have HSUM : Hid (3 + s0 + s1 = 3 + State.fins g) := Lib.hid (by rw [hs0, hs1]; unfold State.fins; omega)
              rw [← hs0] at H0
              rw [← hs1] at H1
              obtain ⟨hs0a, hs0b⟩ := hs0b
              obtain ⟨hs1a, hs1b⟩ := hs1b
              have u1 : IntKind.i64.wrap (3 + s0) = 3 + s0 := IntWalk.i64_in _ (by omega)
              have u2 : IntKind.i64.wrap (3 + s0 + s1) = 3 + s0 + s1 := IntWalk.i64_in _ (by omega)
              have HH0 := Lib.hid H0
              have HH1 := Lib.hid H1
              clear H0 H1 hs0 hs1
              go_region_held3 (fun w' => w'.cell? ⟨w.heap.size, 1, none⟩ = some (.bool g.f0) ∧ w'.cell? ⟨w.heap.size, 2, none⟩ = some (.bool g.f1)) (simp [*, World.cell?_setCell_other]) ((with_reducible first | (refine (HH0.out _).mono ?_; rintro e w' ⟨rfl, rfl⟩) | (refine (HH1.out _).mono ?_; rintro e w' ⟨rfl, rfl⟩)))
              all_goals
                go_wp2_with fail
                go_meet
                refine SMem.as (M.drewN _ |>.put 0 (.int .i64 (3 + s0 + s1))) ?_
                rw [HSUM.out]
                rfl
            case rest =>
            clear M
            have M := hcut
            clear hcut
            go_upto_region 32 with fail
            go_cut [192] (fun s192 wx => s192 = .bool (g.k0 && g.k1) ∧ wx = wc)
            case first =>
              as_aux_lemma =>
              obtain ⟨b0, b1, b2, b3, b4, b5, b6⟩ := cells7 M.b0
              cases hk : g.k0
              all_goals
                rw [hk] at b5
                have HK := Lib.hid hk
                clear hk
                go_wp2_with fail
                go_meet
                exact ⟨by rw [HK.out]; rfl, rfl⟩
            case rest =>
            obtain ⟨rfl, rfl⟩ := hcut
            obtain ⟨z0, z1, z2, z3, z4, z5, z6⟩ := frozen7 M.b0
            obtain ⟨y0, y1, y2, y3, y4, y5, y6⟩ := cells7 M.b2
            obtain ⟨x0, x1, x2, x3, x4, x5, x6⟩ := frozen7 M.b2
            have hl0 := M.b0.lt
            have hl2 := M.b2.lt
            obtain ⟨b0, b1, b2, b3, b4, b5, b6⟩ := cells7 M.b0
            have HA : Hid (State.acks g = 2 ↔ (g.k0 && g.k1) = true) := Lib.hid (by unfold State.acks State.bi; cases g.k0 <;> cases g.k1 <;> simp)
            cases hq : (g.k0 && g.k1)
            · have HT4 : Hid (State.go (⟨st, f0, f1, a0, a1, k0, k1⟩ : State.C) ⟨1, false, true, fi, false, bh, ak⟩ = ({ g with st := 3 + State.fins g }, true)) := Lib.hid (by rw [HT3.out, if_neg (by rw [HA.out, hq]; decide)])
              clear hq
              go_wp2_with fail
              exact bodyPost_ret (v := .tuple #[.agg #[.int .i64 (3 + State.fins g), .bool g.f0, .bool g.f1, .int .u32 g.a0, .int .u32 g.a1, .bool g.k0, .bool g.k1], .bool true]) (by simp [results, Try.results13, go_sem, y0, y1, y2, y3, y4, y5, y6]) rfl (talkR_mk' (d' := { g with st := 3 + State.fins g }) HT4.out (by repeat (first | with_reducible exact M.bel | with_reducible refine Below.drewN ?_ _ | with_reducible refine Below.drew ?_ | with_reducible refine Below.setCell ?_ (by simp <;> omega) _ | with_reducible refine Below.alloc ?_ (by simp <;> omega) _)))
            · have HT4 : Hid (State.go (⟨st, f0, f1, a0, a1, k0, k1⟩ : State.C) ⟨1, false, true, fi, false, bh, ak⟩ = ({ g with st := 6 }, true)) := Lib.hid (by rw [HT3.out, if_pos (by rw [HA.out, hq])])
              clear hq
              go_wp2_with fail
              exact bodyPost_ret (v := .tuple #[.agg #[.int .i64 6, .bool g.f0, .bool g.f1, .int .u32 g.a0, .int .u32 g.a1, .bool g.k0, .bool g.k1], .bool true]) (by simp [results, Try.results13, go_sem, y0, y1, y2, y3, y4, y5, y6]) rfl (talkR_mk' (d' := { g with st := 6 }) HT4.out (by repeat (first | with_reducible exact M.bel | with_reducible refine Below.drewN ?_ _ | with_reducible refine Below.drew ?_ | with_reducible refine Below.setCell ?_ (by simp <;> omega) _ | with_reducible refine Below.alloc ?_ (by simp <;> omega) _)))
        · skip
          have n0 : (st == 0) = false := by rw [beq_eq_false_iff_ne]; omega
          have n1 : (st == 1) = false := by rw [beq_eq_false_iff_ne]; omega
          have n2 : (st == 2) = false := by rw [beq_eq_false_iff_ne]; omega
          have n7 : (st == 7) = false := by rw [beq_eq_false_iff_ne]; omega
          have HF : Hid (State.go (⟨st, f0, f1, a0, a1, k0, k1⟩ : State.C) ⟨1, true, ac, fi, false, bh, ak⟩ = ((⟨st, f0, f1, a0, a1, k0, k1⟩ : State.C), false)) := Lib.hid (by rw [State.go_talk HF0.out rfl h3 h6]; rfl)
          obtain ⟨b0, b1, b2, b3, b4, b5, b6⟩ := cells7 M.b0
          obtain ⟨z0, z1, z2, z3, z4, z5, z6⟩ := frozen7 M.b0
          obtain ⟨y0, y1, y2, y3, y4, y5, y6⟩ := cells7 M.b2
          obtain ⟨x0, x1, x2, x3, x4, x5, x6⟩ := frozen7 M.b2
          have hl0 := M.b0.lt
          have hl2 := M.b2.lt
          go_wp2_with fail
          exact bodyPost_ret (v := .tuple #[.agg #[.int .i64 (st), .bool f0, .bool f1, .int .u32 a0, .int .u32 a1, .bool k0, .bool k1], .bool false]) (by simp [results, Try.results13, go_sem, y0, y1, y2, y3, y4, y5, y6]) rfl (talkR_mk' (d' := (⟨st, f0, f1, a0, a1, k0, k1⟩ : State.C)) HF.out (by repeat (first | with_reducible exact M.bel | with_reducible refine Below.drewN ?_ _ | with_reducible refine Below.drew ?_ | with_reducible refine Below.setCell ?_ (by simp <;> omega) _ | with_reducible refine Below.alloc ?_ (by simp <;> omega) _)))
    · exfalso
      have := HF0.out
      unfold State.begins at this
      simp at this
  · have hst := HST.out
    clear HST
    rcases hst with rfl | rfl | rfl | rfl | rfl
    · skip
      have HF : Hid (State.go (⟨3, f0, f1, a0, a1, k0, k1⟩ : State.C) ⟨1, sy, ac, fi, true, bh, ak⟩ = ((⟨7, f0, f1, a0, a1, k0, k1⟩ : State.C), true)) := Lib.hid (by rfl)
      obtain ⟨b0, b1, b2, b3, b4, b5, b6⟩ := cells7 M.b0
      obtain ⟨z0, z1, z2, z3, z4, z5, z6⟩ := frozen7 M.b0
      obtain ⟨y0, y1, y2, y3, y4, y5, y6⟩ := cells7 M.b2
      obtain ⟨x0, x1, x2, x3, x4, x5, x6⟩ := frozen7 M.b2
      have hl0 := M.b0.lt
      have hl2 := M.b2.lt
      go_wp2_with fail
      exact bodyPost_ret (v := .tuple #[.agg #[.int .i64 (7), .bool f0, .bool f1, .int .u32 a0, .int .u32 a1, .bool k0, .bool k1], .bool true]) (by simp [results, Try.results13, go_sem, y0, y1, y2, y3, y4, y5, y6]) rfl (talkR_mk' (d' := (⟨7, f0, f1, a0, a1, k0, k1⟩ : State.C)) HF.out (by repeat (first | with_reducible exact M.bel | with_reducible refine Below.drewN ?_ _ | with_reducible refine Below.drew ?_ | with_reducible refine Below.setCell ?_ (by simp <;> omega) _ | with_reducible refine Below.alloc ?_ (by simp <;> omega) _)))
    · skip
      have HF : Hid (State.go (⟨4, f0, f1, a0, a1, k0, k1⟩ : State.C) ⟨1, sy, ac, fi, true, bh, ak⟩ = ((⟨7, f0, f1, a0, a1, k0, k1⟩ : State.C), true)) := Lib.hid (by rfl)
      obtain ⟨b0, b1, b2, b3, b4, b5, b6⟩ := cells7 M.b0
      obtain ⟨z0, z1, z2, z3, z4, z5, z6⟩ := frozen7 M.b0
      obtain ⟨y0, y1, y2, y3, y4, y5, y6⟩ := cells7 M.b2
      obtain ⟨x0, x1, x2, x3, x4, x5, x6⟩ := frozen7 M.b2
      have hl0 := M.b0.lt
      have hl2 := M.b2.lt
      go_wp2_with fail
      exact bodyPost_ret (v := .tuple #[.agg #[.int .i64 (7), .bool f0, .bool f1, .int .u32 a0, .int .u32 a1, .bool k0, .bool k1], .bool true]) (by simp [results, Try.results13, go_sem, y0, y1, y2, y3, y4, y5, y6]) rfl (talkR_mk' (d' := (⟨7, f0, f1, a0, a1, k0, k1⟩ : State.C)) HF.out (by repeat (first | with_reducible exact M.bel | with_reducible refine Below.drewN ?_ _ | with_reducible refine Below.drew ?_ | with_reducible refine Below.setCell ?_ (by simp <;> omega) _ | with_reducible refine Below.alloc ?_ (by simp <;> omega) _)))
    · skip
      have HF : Hid (State.go (⟨5, f0, f1, a0, a1, k0, k1⟩ : State.C) ⟨1, sy, ac, fi, true, bh, ak⟩ = ((⟨7, f0, f1, a0, a1, k0, k1⟩ : State.C), true)) := Lib.hid (by rfl)
      obtain ⟨b0, b1, b2, b3, b4, b5, b6⟩ := cells7 M.b0
      obtain ⟨z0, z1, z2, z3, z4, z5, z6⟩ := frozen7 M.b0
      obtain ⟨y0, y1, y2, y3, y4, y5, y6⟩ := cells7 M.b2
      obtain ⟨x0, x1, x2, x3, x4, x5, x6⟩ := frozen7 M.b2
      have hl0 := M.b0.lt
      have hl2 := M.b2.lt
      go_wp2_with fail
      exact bodyPost_ret (v := .tuple #[.agg #[.int .i64 (7), .bool f0, .bool f1, .int .u32 a0, .int .u32 a1, .bool k0, .bool k1], .bool true]) (by simp [results, Try.results13, go_sem, y0, y1, y2, y3, y4, y5, y6]) rfl (talkR_mk' (d' := (⟨7, f0, f1, a0, a1, k0, k1⟩ : State.C)) HF.out (by repeat (first | with_reducible exact M.bel | with_reducible refine Below.drewN ?_ _ | with_reducible refine Below.drew ?_ | with_reducible refine Below.setCell ?_ (by simp <;> omega) _ | with_reducible refine Below.alloc ?_ (by simp <;> omega) _)))
    · skip
      have HF : Hid (State.go (⟨6, f0, f1, a0, a1, k0, k1⟩ : State.C) ⟨1, sy, ac, fi, true, bh, ak⟩ = ((⟨6, f0, f1, a0, a1, k0, k1⟩ : State.C), false)) := Lib.hid (by rfl)
      obtain ⟨b0, b1, b2, b3, b4, b5, b6⟩ := cells7 M.b0
      obtain ⟨z0, z1, z2, z3, z4, z5, z6⟩ := frozen7 M.b0
      obtain ⟨y0, y1, y2, y3, y4, y5, y6⟩ := cells7 M.b2
      obtain ⟨x0, x1, x2, x3, x4, x5, x6⟩ := frozen7 M.b2
      have hl0 := M.b0.lt
      have hl2 := M.b2.lt
      go_wp2_with fail
      exact bodyPost_ret (v := .tuple #[.agg #[.int .i64 (6), .bool f0, .bool f1, .int .u32 a0, .int .u32 a1, .bool k0, .bool k1], .bool false]) (by simp [results, Try.results13, go_sem, y0, y1, y2, y3, y4, y5, y6]) rfl (talkR_mk' (d' := (⟨6, f0, f1, a0, a1, k0, k1⟩ : State.C)) HF.out (by repeat (first | with_reducible exact M.bel | with_reducible refine Below.drewN ?_ _ | with_reducible refine Below.drew ?_ | with_reducible refine Below.setCell ?_ (by simp <;> omega) _ | with_reducible refine Below.alloc ?_ (by simp <;> omega) _)))
    · skip
      have HF : Hid (State.go (⟨7, f0, f1, a0, a1, k0, k1⟩ : State.C) ⟨1, sy, ac, fi, true, bh, ak⟩ = ((⟨7, f0, f1, a0, a1, k0, k1⟩ : State.C), false)) := Lib.hid (by rfl)
      obtain ⟨b0, b1, b2, b3, b4, b5, b6⟩ := cells7 M.b0
      obtain ⟨z0, z1, z2, z3, z4, z5, z6⟩ := frozen7 M.b0
      obtain ⟨y0, y1, y2, y3, y4, y5, y6⟩ := cells7 M.b2
      obtain ⟨x0, x1, x2, x3, x4, x5, x6⟩ := frozen7 M.b2
      have hl0 := M.b0.lt
      have hl2 := M.b2.lt
      go_wp2_with fail
      exact bodyPost_ret (v := .tuple #[.agg #[.int .i64 (7), .bool f0, .bool f1, .int .u32 a0, .int .u32 a1, .bool k0, .bool k1], .bool false]) (by simp [results, Try.results13, go_sem, y0, y1, y2, y3, y4, y5, y6]) rfl (talkR_mk' (d' := (⟨7, f0, f1, a0, a1, k0, k1⟩ : State.C)) HF.out (by repeat (first | with_reducible exact M.bel | with_reducible refine Below.drewN ?_ _ | with_reducible refine Below.drew ?_ | with_reducible refine Below.setCell ?_ (by simp <;> omega) _ | with_reducible refine Below.alloc ?_ (by simp <;> omega) _)))
end Go.Proofs.Ytliibpajgdncpaa
