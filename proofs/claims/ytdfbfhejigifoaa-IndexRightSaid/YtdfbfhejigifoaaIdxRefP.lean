/- The walks of the reference's Get, Put, Del. -/
import Derived.Test.YtdfbfhejigifoaaIdxRefD
import Derived.Deep.DeepCutAuto
namespace Go.Proofs.Ytdfbfhejigifoaa
open Go.RowKit
set_option linter.unusedVariables false
set_option maxHeartbeats 4000000 in
theorem rget_spec (A : Option Addr) (n c : Nat) (l : List Idx.Cell) (k : Idx.Key) (w : World) (hT : TabR w A n l) (hk : k.wf) (hn : n ≤ 1000000) :
    Calls Try.prog 12 #[.slice A n c, .agg #[.int .i64 k.pr, .int .u32 k.sr, .int .i64 k.sp, .int .u32 k.ds, .int .i64 k.dp]] w fun e w' => e = .returned (.tuple #[.int .i64 (Idx.get l k).1, .bool (Idx.get l k).2]) ∧ Below w.heap.size w w' := by
  obtain ⟨W, hW⟩ : ∃ W, W = w.alloc (.cells #[.int .i64 k.pr, .int .u32 k.sr, .int .i64 k.sp, .int .u32 k.ds, .int .i64 k.dp] 25) := ⟨_, rfl⟩
  have hbW : Below w.heap.size w W := by rw [hW]; exact (Below.refl _ _).alloc (Nat.le_refl _) _
  have K5 : Hid (∀ w' : World, Below W.heap.size W w' → w'.cell? ⟨w.heap.size, 0, none⟩ = some (.int .i64 k.pr) ∧ w'.cell? ⟨w.heap.size, 1, none⟩ = some (.int .u32 k.sr) ∧ w'.cell? ⟨w.heap.size, 2, none⟩ = some (.int .i64 k.sp) ∧ w'.cell? ⟨w.heap.size, 3, none⟩ = some (.int .u32 k.ds) ∧ w'.cell? ⟨w.heap.size, 4, none⟩ = some (.int .i64 k.dp)) := Lib.hid fun w' hb => key_c5 W k w.heap.size (by rw [hW]; exact BlkV.new _ _ _) w' hb
  have HT := Lib.hid (hT.below hbW)
  have hl := Lib.hid hT.len
  have HR := Lib.hid (rright_spec A n c l W HT.out hn)
  clear hT
  cases hr : Idx.Right l
  · have HG := Lib.hid (Idx.get_no (k := k) hr)
    rw [hr] at HR
    clear hr
    rw [HG.out]
    go_enter Try.func12, Try.ntmps12
    go_upto_region 1 with (fail)
    rw [← hW]
    clear hW
    go_wp2_with fail
    refine HR.out.mono ?_
    rintro e w2 ⟨rfl, hb2⟩
    go_wp2_with fail
    go_ret2
    exact ⟨rfl, bel_then hbW hb2⟩
  · have hG := Idx.right_iff.1 hr
    obtain ⟨p, hp⟩ := hG.found k
    have HG := Lib.hid (Idx.get_yes (k := k) hr hp)
    have hpl := (Idx.ends_of_fnd hp).1
    rw [hl.out] at hpl
    have HF := Lib.hid hp
    have hpz : (p : Int) < (n : Int) := by omega
    rw [hr] at HR
    clear hr hp hG
    rw [HG.out]
    go_enter Try.func12, Try.ntmps12
    go_upto_region 1 with (fail)
    rw [← hW]
    clear hW
    go_wp2_with fail
    refine HR.out.mono ?_
    rintro e w2 ⟨rfl, hb2⟩
    obtain ⟨c0, c1, c2, c3, c4⟩ := K5.out w2 hb2
    have HT2 := Lib.hid (HT.out.below hb2)
    have HFS := Lib.hid (seek_spec A n c l k p w2 HT2.out hk (by omega) HF.out)
    have HB2 := Lib.hid (bel_then hbW hb2)
    clear HR hb2 hbW K5 HT
    go_wp2_with fail
    refine HFS.out.mono ?_
    rintro e w3 ⟨rfl, hb3⟩
    obtain ⟨b, off, rfl, hbs, e0, e1, e2, e3, e4, e5, e6⟩ := (HT2.out.below hb3).seven hpl
    have HB3 := Lib.hid (bel_then HB2.out hb3)
    clear hb3 HT2 HFS c0 c1 c2 c3 c4
    generalize hx : Idx.at' l p = x at *
    have HX := Lib.hid hx
    clear hx
    go_wp2_with fail
    go_quiet (fail)
    go_wp2_with fail
    go_ret2
    exact ⟨tup_ib (by rw [HX.out]) (by rw [HX.out]), bel_drN2 HB3.out _⟩
set_option maxHeartbeats 8000000 in
theorem rput_spec (A : Option Addr) (n c : Nat) (l : List Idx.Cell) (k : Idx.Key) (x : Int) (w : World) (hT : TabR w A n l) (hk : k.wf) (hn : n ≤ 1000000) :
    Calls Try.prog 18 #[.slice A n c, .agg #[.int .i64 k.pr, .int .u32 k.sr, .int .i64 k.sp, .int .u32 k.ds, .int .i64 k.dp], .int .i64 x] w (TabRet w n (Idx.put l k x)) := by
  obtain ⟨W, hW⟩ : ∃ W, W = w.alloc (.cells #[.int .i64 k.pr, .int .u32 k.sr, .int .i64 k.sp, .int .u32 k.ds, .int .i64 k.dp] 25) := ⟨_, rfl⟩
  have hbW : Below w.heap.size w W := by rw [hW]; exact (Below.refl _ _).alloc (Nat.le_refl _) _
  have K5 : Hid (∀ w' : World, Below W.heap.size W w' → w'.cell? ⟨w.heap.size, 0, none⟩ = some (.int .i64 k.pr) ∧ w'.cell? ⟨w.heap.size, 1, none⟩ = some (.int .u32 k.sr) ∧ w'.cell? ⟨w.heap.size, 2, none⟩ = some (.int .i64 k.sp) ∧ w'.cell? ⟨w.heap.size, 3, none⟩ = some (.int .u32 k.ds) ∧ w'.cell? ⟨w.heap.size, 4, none⟩ = some (.int .i64 k.dp)) := Lib.hid fun w' hb => key_c5 W k w.heap.size (by rw [hW]; exact BlkV.new _ _ _) w' hb
  have HT0 := Lib.hid hT
  have HT := Lib.hid (hT.below hbW)
  have hl := Lib.hid hT.len
  have HR := Lib.hid (rright_spec A n c l W HT.out hn)
  have hpl : ∀ p, Idx.fnd l k = some p → p < n := fun p h => by rw [← hT.len]; exact (Idx.ends_of_fnd h).1
  clear hT
  have HBW := Lib.hid hbW
  have HEND : Hid (∀ (w' : World) (er : Int), Idx.put l k x = (l, er) → Below w.heap.size w w' → TabRet w n (Idx.put l k x) (.returned (.tuple #[.slice A n c, .int .i64 er])) w') := Lib.hid fun w' er h hb => by
    rw [h]; exact ⟨A, c, rfl, HT0.out.below hb, hb⟩
  cases hr : Idx.Right l
  · have HG := Lib.hid (Idx.put_a (k := k) (x := x) hr)
    rw [hr] at HR
    clear hr hbW
    go_enter Try.func18, Try.ntmps18
    go_upto_region 1 with (fail)
    rw [← hW]
    clear hW
    go_wp2_with fail
    refine HR.out.mono ?_
    rintro e w2 ⟨rfl, hb2⟩
    go_wp2_with fail
    go_ret2
    exact HEND.out _ _ HG.out (bel_then HBW.out hb2)
  · have HRI := Lib.hid hr
    have hG := Idx.right_iff.1 hr
    obtain ⟨p, hp⟩ := hG.found k
    have hpn := hpl p hp
    have HF := Lib.hid hp
    have hm2 := hG.room
    rw [hl.out] at hm2
    rw [hr] at HR
    have hpz : (p : Int) < (n : Int) := by omega
    clear hr hp hG hpl hbW
    go_enter Try.func18, Try.ntmps18
    go_upto_region 1 with (fail)
    rw [← hW]
    clear hW
    go_wp2_with fail
    refine HR.out.mono ?_
    rintro e w2 ⟨rfl, hb2⟩
    have HB2 := Lib.hid hb2
    obtain ⟨d0, d1, d2, d3, d4⟩ := K5.out w2 hb2
    have HTR := Lib.hid (refRight_spec k w2)
    clear hb2 HR
    cases hq : Idx.right k
    · have HG := Lib.hid (Idx.put_b (l := l) (x := x) hq)
      rw [hq] at HTR
      clear hq
      go_wp2_with fail
      refine HTR.out.mono ?_
      rintro e w3 ⟨rfl, hb3⟩
      have HB3 := Lib.hid (bel_then HB2.out hb3)
      clear hb3
      go_wp2_with fail
      go_ret2
      exact HEND.out _ _ HG.out (bel_then HBW.out HB3.out)
    · have HRK := Lib.hid hq
      rw [hq] at HTR
      clear hq
      go_wp2_with fail
      refine HTR.out.mono ?_
      rintro e w3 ⟨rfl, hb3⟩
      have HB3 := Lib.hid (bel_then HB2.out hb3)
      clear hb3 HTR HB2 d0 d1 d2 d3 d4
      obtain ⟨d0, d1, d2, d3, d4⟩ := K5.out w3 HB3.out
      have HT3 := Lib.hid (HT.out.below HB3.out)
      have HFS := Lib.hid (seek_spec A n c l k p w3 HT3.out hk hn HF.out)
      go_wp2_with fail
      refine HFS.out.mono ?_
      rintro e w4 ⟨rfl, hb4⟩
      have HB4 := Lib.hid (bel_then HB3.out hb4)
      clear hb4 HFS HB3 d0 d1 d2 d3 d4 HT3
      have HT4 := Lib.hid (HT.out.below HB4.out)
      obtain ⟨b, off, rfl, hbs, e0, e1, e2, e3, e4, e5, e6⟩ := HT4.out.seven hpn
      cases hu : (Idx.at' l p).u
      · have HU := Lib.hid hu
        rw [hu] at e0
        clear hu e1 e2 e3 e4 e5 e6
        have HL := Lib.hid (rlen_spec (some ⟨b, off, none⟩) n c l w4 HT4.out (by omega))
        by_cases hm : Idx.many l + 1 = n
        · have HG := Lib.hid (Idx.put_d (x := x) HRI.out HRK.out HF.out HU.out (by rw [hl.out]; exact hm))
          have hmz : (Idx.many l : Int) = (n : Int) - 1 := by omega
          rw [hmz] at HL
          clear hm hmz
          go_wp2_with fail
          refine HL.out.mono ?_
          rintro e w5 ⟨rfl, rfl⟩
          go_wp2_with fail
          go_ret2
          exact HEND.out _ _ HG.out (bel_then HBW.out HB4.out)
        · have HG := Lib.hid (Idx.put_e (x := x) HRI.out HRK.out HF.out HU.out (by rw [hl.out]; exact hm))
          have hmz : ¬ (n : Int) ≤ (Idx.many l : Int) + 1 := by omega
          clear hm
          generalize Idx.many l = m at *
          obtain ⟨d0, d1, d2, d3, d4⟩ := K5.out w4 HB4.out
          have HW := Lib.hid (with_spec (some ⟨b, off, none⟩) n c l p ⟨true, k, x⟩ w4 HT4.out hk hpn hn)
          go_wp2_with fail
          refine HL.out.mono ?_
          rintro e w5 ⟨rfl, rfl⟩
          go_wp2_with fail
          refine HW.out.mono ?_
          rintro e w6 ⟨A6, c6, rfl, hT6, hb6⟩
          go_wp2_with fail
          go_ret2
          rw [HG.out]
          exact ⟨A6, c6, rfl, hT6, bel_then (bel_then HBW.out HB4.out) hb6⟩
      · have HG := Lib.hid (Idx.put_c (x := x) HRI.out HRK.out HF.out hu)
        rw [hu] at e0
        clear hu e1 e2 e3 e4 e5 e6
        go_wp2_with fail
        go_ret2
        exact HEND.out _ _ HG.out (bel_then HBW.out HB4.out)
end Go.Proofs.Ytdfbfhejigifoaa
