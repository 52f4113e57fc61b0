/- The walk of flows' may. -/
import Derived.Test.YtdboehogkmidbaaFlRead
import Derived.Test.YtdboehogkmidbaaIdxEq
import Derived.Deep.QuietTactic
import Derived.BigQuiet
namespace Go.Proofs.Ytdboehogkmidbaa
open Go.RowKit
set_option linter.unusedVariables false
set_option linter.unusedSimpArgs false
attribute [local go_sem ↓] eq_key9 eq_key
theorem BlkV.flow {w' : World} {W0 : Nat} {f : Fl.F} (h : BlkV w' W0 31 [.int .i64 f.th.pr, .int .u32 f.th.sr, .int .i64 f.th.sp, .int .u32 f.th.ds, .int .i64 f.th.dp, .int .i64 f.bk.pr, .int .u32 f.bk.sr, .int .i64 f.bk.sp, .int .u32 f.bk.ds, .int .i64 f.bk.dp, .int .i64 f.un, .int .i64 f.no]) : w'.cell? ⟨W0, 0, none⟩ = some (.int .i64 f.th.pr) ∧ w'.cell? ⟨W0, 1, none⟩ = some (.int .u32 f.th.sr) ∧ w'.cell? ⟨W0, 2, none⟩ = some (.int .i64 f.th.sp) ∧ w'.cell? ⟨W0, 3, none⟩ = some (.int .u32 f.th.ds) ∧ w'.cell? ⟨W0, 4, none⟩ = some (.int .i64 f.th.dp) ∧ w'.cell? ⟨W0, 5, none⟩ = some (.int .i64 f.bk.pr) ∧ w'.cell? ⟨W0, 6, none⟩ = some (.int .u32 f.bk.sr) ∧ w'.cell? ⟨W0, 7, none⟩ = some (.int .i64 f.bk.sp) ∧ w'.cell? ⟨W0, 8, none⟩ = some (.int .u32 f.bk.ds) ∧ w'.cell? ⟨W0, 9, none⟩ = some (.int .i64 f.bk.dp) ∧ w'.cell? ⟨W0, 10, none⟩ = some (.int .i64 f.un) ∧ w'.cell? ⟨W0, 11, none⟩ = some (.int .i64 f.no) :=
  ⟨h.cell (i := 0) rfl, h.cell (i := 1) rfl, h.cell (i := 2) rfl, h.cell (i := 3) rfl, h.cell (i := 4) rfl, h.cell (i := 5) rfl, h.cell (i := 6) rfl, h.cell (i := 7) rfl, h.cell (i := 8) rfl, h.cell (i := 9) rfl, h.cell (i := 10) rfl, h.cell (i := 11) rfl⟩
/-- what may answers -/
def Fl.mayV (tb : List Idx.Cell) (n : Nat) (now : Int) (many : Nat) (f : Fl.F) : Int :=
  if Idx.right f.th = false ∨ Idx.right f.bk = false ∨ f.th = f.bk ∨ 1099511627776 < f.un then 1 else if f.un ≤ now then 14 else if (Idx.get tb f.th).2 = true ∨ (Idx.get tb f.bk).2 = true then 10 else if many = n then 8 else 0
section
variable {w w' : World} {X : FLoc} {sl : Fl.Sl} {At : Option Addr} {ct : Nat} {tb : List Idx.Cell} {c : Nat} {es : List Mi.E} {ck : Nat} {l : List Wh.Al} {now : Int} {many : Nat}
theorem WM.now_q (h : WM w X.L c es ck l now) (q : Nat) : Calls Try.prog 24 #[.pointer (some ⟨X.L.gw, 0, none⟩)] (w.drewN q) fun e w'' => e = .returned (.int .i64 now) ∧ ∃ m, w'' = w.drewN m :=
  (h.below (bel_n (Below.refl _ w) q)).nowc.mono (by rintro e w' ⟨rfl, rfl⟩; exact ⟨rfl, q, rfl⟩)
set_option maxHeartbeats 8000000 in
theorem FMem.may (h : FMem w X sl At ct tb c es ck l now many) (f : Fl.F) (hk1 : f.th.wf) (hk2 : f.bk.wf) :
    Calls Try.prog 18 #[.pointer (some ⟨X.gs, 0, none⟩), .agg #[.int .i64 f.th.pr, .int .u32 f.th.sr, .int .i64 f.th.sp, .int .u32 f.th.ds, .int .i64 f.th.dp, .int .i64 f.bk.pr, .int .u32 f.bk.sr, .int .i64 f.bk.sp, .int .u32 f.bk.ds, .int .i64 f.bk.dp, .int .i64 f.un, .int .i64 f.no]] w fun e w' => e = .returned (.int .i64 (Fl.mayV tb sl.length now many f)) ∧ Below w.heap.size w w' := by
  obtain ⟨W, hW⟩ : ∃ W, W = w.alloc (.cells #[.int .i64 f.th.pr, .int .u32 f.th.sr, .int .i64 f.th.sp, .int .u32 f.th.ds, .int .i64 f.th.dp, .int .i64 f.bk.pr, .int .u32 f.bk.sr, .int .i64 f.bk.sp, .int .u32 f.bk.ds, .int .i64 f.bk.dp, .int .i64 f.un, .int .i64 f.no] 31) := ⟨_, rfl⟩
  have hbW : Below w.heap.size w W := by rw [hW]; exact bel_a (Below.refl _ _) _
  obtain ⟨W0, hW0⟩ : ∃ W0, W0 = w.heap.size := ⟨_, rfl⟩
  have hN : BlkV W W0 31 [.int .i64 f.th.pr, .int .u32 f.th.sr, .int .i64 f.th.sp, .int .u32 f.th.ds, .int .i64 f.th.dp, .int .i64 f.bk.pr, .int .u32 f.bk.sr, .int .i64 f.bk.sp, .int .u32 f.bk.ds, .int .i64 f.bk.dp, .int .i64 f.un, .int .i64 f.no] := by rw [hW, hW0]; exact BlkV.new _ _ _
  obtain ⟨f0, f1, f2, f3, f4, f5, f6, f7, f8, f9, f10, f11⟩ := hN.flow
  have HM := Lib.hid (h.below hbW)
  have HN := Lib.hid hN
  have HB := Lib.hid hbW
  have HK1 := Lib.hid hk1
  have HK2 := Lib.hid hk2
  have hV : ∀ x, x = Fl.mayV tb sl.length now many f → x = Fl.mayV tb sl.length now many f := fun _ h => h
  have HVd : Hid (Fl.mayV tb sl.length now many f = if Idx.right f.th = false ∨ Idx.right f.bk = false ∨ f.th = f.bk ∨ 1099511627776 < f.un then 1 else if f.un ≤ now then 14 else if (Idx.get tb f.th).2 = true ∨ (Idx.get tb f.bk).2 = true then 10 else if many = sl.length then 8 else 0) := Lib.hid rfl
  clear h hbW hN hk1 hk2 hV
  go_enter Try.func18, Try.ntmps18
  go_upto_region 1 with (fail)
  rw [← hW, ← hW0]
  clear hW hW0
  go_wp2_with fail
  refine (tright_spec f.th W).mono ?_
  rintro e w1 ⟨rfl, hb1⟩
  have HB1 := Lib.hid (bel_then HB.out hb1)
  have HM1 := Lib.hid (HM.out.below hb1)
  have HN1 := Lib.hid (HN.out.below hb1)
  clear f0 f1 f2 f3 f4 f5 f6 f7 f8 f9 f10 f11 hb1 HM HN HB
  obtain ⟨f0, f1, f2, f3, f4, f5, f6, f7, f8, f9, f10, f11⟩ := HN1.out.flow
  cases hr1 : Idx.right f.th with
  | false =>
    have HP : Hid (Fl.mayV tb sl.length now many f = 1) := Lib.hid (by rw [HVd.out, if_pos (Or.inl hr1)])
    clear hr1
    go_wp2_with fail
    go_ret
    exact ⟨by rw [HP.out]; rfl, HB1.out⟩
  | true =>
    go_wp2_with fail
    refine (tright_spec f.bk w1).mono ?_
    rintro e w2 ⟨rfl, hb2⟩
    have HB2 := Lib.hid (bel_then HB1.out hb2)
    have HM2 := Lib.hid (HM1.out.below hb2)
    have HN2 := Lib.hid (HN1.out.below hb2)
    clear f0 f1 f2 f3 f4 f5 f6 f7 f8 f9 f10 f11 hb2 HM1 HN1 HB1
    obtain ⟨f0, f1, f2, f3, f4, f5, f6, f7, f8, f9, f10, f11⟩ := HN2.out.flow
    cases hr2 : Idx.right f.bk with
    | false =>
      have HP : Hid (Fl.mayV tb sl.length now many f = 1) := Lib.hid (by rw [HVd.out, if_pos (Or.inr (Or.inl hr2))])
      clear hr1 hr2
      go_wp2_with fail
      go_ret
      exact ⟨by rw [HP.out]; rfl, HB2.out⟩
    | true =>
      by_cases he : f.th = f.bk
      · have HP : Hid (Fl.mayV tb sl.length now many f = 1) := Lib.hid (by rw [HVd.out, if_pos (Or.inr (Or.inr (Or.inl he)))])
        have heb : decide (f.th = f.bk) = true := decide_eq_true he
        clear hr1 hr2 he
        go_wp2_with fail
        go_ret
        exact ⟨by rw [HP.out]; rfl, HB2.out⟩
      · have heb : decide (f.th = f.bk) = false := decide_eq_false he
        by_cases hu : 1099511627776 < f.un
        · have HP : Hid (Fl.mayV tb sl.length now many f = 1) := Lib.hid (by rw [HVd.out, if_pos (Or.inr (Or.inr (Or.inr hu)))])
          clear hr1 hr2 he
          go_wp2_with fail
          go_ret
          exact ⟨by rw [HP.out]; rfl, HB2.out⟩
        · have HV2 : Hid (Fl.mayV tb sl.length now many f = if f.un ≤ now then 14 else if (Idx.get tb f.th).2 = true ∨ (Idx.get tb f.bk).2 = true then 10 else if many = sl.length then 8 else 0) := Lib.hid (by
            rw [HVd.out, if_neg]
            rintro (h1 | h1 | h1 | h1)
            · rw [hr1] at h1; cases h1
            · rw [hr2] at h1; cases h1
            · exact he h1
            · exact hu h1)
          have huz : f.un ≤ 1099511627776 := by omega
          obtain ⟨c0, c1, c2, c3⟩ := HM2.out.cells
          have HQ : Hid (∀ q, Calls Try.prog 24 #[.pointer (some ⟨X.L.gw, 0, none⟩)] (w2.drewN q) fun e w'' => e = .returned (.int .i64 now) ∧ ∃ m, w'' = w2.drewN m) := Lib.hid fun q => HM2.out.wh.now_q q
          clear hr1 hr2 he HVd hu
          by_cases ht : f.un ≤ now
          · have htB : decide (f.un ≤ now) = true := decide_eq_true ht
            have HP : Hid (Fl.mayV tb sl.length now many f = 14) := Lib.hid (by rw [HV2.out, if_pos ht])
            go_wp2_with fail
            go_quiet ((go_at_call 24; exact HQ.out _))
            go_wp2_with fail
            go_ret
            exact ⟨by rw [HP.out]; rfl, below_drewN HB2.out _⟩
          · have htB : decide (f.un ≤ now) = false := decide_eq_false ht
            have HV3 : Hid (Fl.mayV tb sl.length now many f = if (Idx.get tb f.th).2 = true ∨ (Idx.get tb f.bk).2 = true then 10 else if many = sl.length then 8 else 0) := Lib.hid (by rw [HV2.out, if_neg ht])
            clear HV2
            go_wp2_with fail
            go_quiet ((go_at_call 24; exact HQ.out _))
            clear HQ c0 c1 c2 c3
            obtain ⟨w3, hw3⟩ : ∃ w3, w3 = w2.drewN nq := ⟨_, rfl⟩
            rw [← hw3]
            have hb3 : Below w2.heap.size w2 w3 := by rw [hw3]; exact bel_n (Below.refl _ _) _
            have HB3 := Lib.hid (bel_then HB2.out hb3)
            have HM3 := Lib.hid (HM2.out.below hb3)
            have HN3 := Lib.hid (HN2.out.below hb3)
            clear f0 f1 f2 f3 f4 f5 f6 f7 f8 f9 f10 f11 hw3 hb3 HM2 HN2 HB2
            obtain ⟨f0, f1, f2, f3, f4, f5, f6, f7, f8, f9, f10, f11⟩ := HN3.out.flow
            go_wp2_with fail
            refine (HM3.out.known f.th HK1.out).mono ?_
            rintro e w4 ⟨rfl, hb4⟩
            have HB4 := Lib.hid (bel_then HB3.out hb4)
            have HM4 := Lib.hid (HM3.out.below hb4)
            have HN4 := Lib.hid (HN3.out.below hb4)
            clear f0 f1 f2 f3 f4 f5 f6 f7 f8 f9 f10 f11 hb4 HM3 HN3 HB3
            cases hk1 : (Idx.get tb f.th).2 with
            | true =>
              have HP : Hid (Fl.mayV tb sl.length now many f = 10) := Lib.hid (by rw [HV3.out, if_pos (Or.inl hk1)])
              clear hk1
              go_wp2_with fail
              go_ret
              exact ⟨by rw [HP.out]; rfl, HB4.out⟩
            | false =>
              have HKF := Lib.hid hk1
              clear hk1
              obtain ⟨f0, f1, f2, f3, f4, f5, f6, f7, f8, f9, f10, f11⟩ := HN4.out.flow
              go_wp2_with fail
              refine (HM4.out.known f.bk HK2.out).mono ?_
              rintro e w5 ⟨rfl, hb5⟩
              have HB5 := Lib.hid (bel_then HB4.out hb5)
              have HM5 := Lib.hid (HM4.out.below hb5)
              clear f0 f1 f2 f3 f4 f5 f6 f7 f8 f9 f10 f11 hb5 HM4 HN4 HB4
              cases hk2 : (Idx.get tb f.bk).2 with
              | true =>
                have HP : Hid (Fl.mayV tb sl.length now many f = 10) := Lib.hid (by rw [HV3.out, if_pos (Or.inr hk2)])
                clear hk2
                go_wp2_with fail
                go_ret
                exact ⟨by rw [HP.out]; rfl, HB5.out⟩
              | false =>
                have HV4 : Hid (Fl.mayV tb sl.length now many f = if many = sl.length then 8 else 0) := Lib.hid (by
                  rw [HV3.out, if_neg]
                  rintro (h1 | h1)
                  · rw [HKF.out] at h1; cases h1
                  · rw [hk2] at h1; cases h1)
                clear hk2 HV3
                obtain ⟨c0, c1, c2, c3⟩ := HM5.out.cells
                by_cases hm : many = sl.length
                · have HP : Hid (Fl.mayV tb sl.length now many f = 8) := Lib.hid (by rw [HV4.out, if_pos hm])
                  have hmb : ((many : Int) == (sl.length : Int)) = true := by simp [hm]
                  clear hm
                  go_wp2_with fail
                  go_quiet (fail)
                  go_wp2_with fail
                  go_ret
                  exact ⟨by rw [HP.out]; rfl, below_drewN HB5.out _⟩
                · have HP : Hid (Fl.mayV tb sl.length now many f = 0) := Lib.hid (by rw [HV4.out, if_neg hm])
                  have hmb : ((many : Int) == (sl.length : Int)) = false := by simp; omega
                  clear hm
                  go_wp2_with fail
                  go_quiet (fail)
                  go_wp2_with fail
                  go_ret
                  exact ⟨by rw [HP.out]; rfl, below_drewN HB5.out _⟩
end
end Go.Proofs.Ytdboehogkmidbaa
