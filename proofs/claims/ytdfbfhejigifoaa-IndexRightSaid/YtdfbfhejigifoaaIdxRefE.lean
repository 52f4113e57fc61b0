/- The walk of the reference's Del. -/
import Derived.Test.YtdfbfhejigifoaaIdxRefP
namespace Go.Proofs.Ytdfbfhejigifoaa
open Go.RowKit
set_option linter.unusedVariables false
theorem with_nil (A : Option Addr) (n c : Nat) (l : List Idx.Cell) (p : Nat) (w : World) (hT : TabR w A n l) (hp : p < n) (hN : n ≤ 1000000) :
    Calls Try.prog 28 #[.slice A n c, .int .i64 p, .agg #[.bool false, .int .i64 0, .int .u32 0, .int .i64 0, .int .u32 0, .int .i64 0, .int .i64 0]] w fun e w' => ∃ A' c', e = .returned (.slice A' n c') ∧ TabR w' A' n (l.set p Idx.Cell.nil) ∧ Below w.heap.size w w' :=
  with_spec A n c l p Idx.Cell.nil w hT nil_wf hp hN
set_option maxRecDepth 8000 in
set_option maxHeartbeats 8000000 in
theorem rdel_spec (A : Option Addr) (n c : Nat) (l : List Idx.Cell) (k : Idx.Key) (w : World) (hT : TabR w A n l) (hk : k.wf) (hn : n ≤ 1000000) :
    Calls Try.prog 20 #[.slice A n c, .agg #[.int .i64 k.pr, .int .u32 k.sr, .int .i64 k.sp, .int .u32 k.ds, .int .i64 k.dp]] w (TabRet w n (Idx.del l k)) := by
  obtain ⟨W, hW⟩ : ∃ W, W = w.alloc (.cells #[.int .i64 k.pr, .int .u32 k.sr, .int .i64 k.sp, .int .u32 k.ds, .int .i64 k.dp] 25) := ⟨_, rfl⟩
  have hbW : Below w.heap.size w W := by rw [hW]; exact (Below.refl _ _).alloc (Nat.le_refl _) _
  have K5 : Hid (∀ w' : World, Below W.heap.size W w' → w'.cell? ⟨w.heap.size, 0, none⟩ = some (.int .i64 k.pr) ∧ w'.cell? ⟨w.heap.size, 1, none⟩ = some (.int .u32 k.sr) ∧ w'.cell? ⟨w.heap.size, 2, none⟩ = some (.int .i64 k.sp) ∧ w'.cell? ⟨w.heap.size, 3, none⟩ = some (.int .u32 k.ds) ∧ w'.cell? ⟨w.heap.size, 4, none⟩ = some (.int .i64 k.dp)) := Lib.hid fun w' hb => key_c5 W k w.heap.size (by rw [hW]; exact BlkV.new _ _ _) w' hb
  have HT0 := Lib.hid hT
  have HT := Lib.hid (hT.below hbW)
  have hl := Lib.hid hT.len
  have HR := Lib.hid (rright_spec A n c l W HT.out hn)
  have hpl : ∀ p, Idx.fnd l k = some p → p < n := fun p h => by rw [← hT.len]; exact (Idx.ends_of_fnd h).1
  clear hT
  have HBW := Lib.hid hbW
  have HEND : Hid (∀ (w' : World) (er : Int), Idx.del l k = (l, er) → Below w.heap.size w w' → TabRet w n (Idx.del l k) (.returned (.tuple #[.slice A n c, .int .i64 er])) w') := Lib.hid fun w' er h hb => by
    rw [h]; exact ⟨A, c, rfl, HT0.out.below hb, hb⟩
  cases hr : Idx.Right l
  · have HG := Lib.hid (Idx.del_a (k := k) hr)
    rw [hr] at HR
    clear hr hbW
    go_enter Try.func20, Try.ntmps20
    go_upto_region 1 with (fail)
    rw [← hW]
    clear hW
    go_wp2_with fail
    refine HR.out.mono ?_
    rintro e w2 ⟨rfl, hb2⟩
    go_wp2_with fail
    go_ret2
    exact HEND.out _ _ HG.out (bel_then HBW.out hb2)
  · have HRI := Lib.hid hr
    have HGOOD := Lib.hid (Idx.right_iff.1 hr)
    obtain ⟨p, hp⟩ := HGOOD.out.found k
    have hpn := hpl p hp
    have HF := Lib.hid hp
    rw [hr] at HR
    have hpz : (p : Int) < (n : Int) := by omega
    have hnz : ¬ (n : Int) = 0 := by omega
    have hnz1 : (0 : Int) < (n : Int) := by omega
    clear hr hp hpl hbW
    go_enter Try.func20, Try.ntmps20
    go_upto_region 1 with (fail)
    rw [← hW]
    clear hW
    go_wp2_with fail
    refine HR.out.mono ?_
    rintro e w2 ⟨rfl, hb2⟩
    have HB2 := Lib.hid hb2
    obtain ⟨d0, d1, d2, d3, d4⟩ := K5.out w2 hb2
    have HFS := Lib.hid (seek_spec A n c l k p w2 (HT.out.below hb2) hk hn HF.out)
    clear hb2 HR
    go_wp2_with fail
    refine HFS.out.mono ?_
    rintro e w4 ⟨rfl, hb4⟩
    have HB4 := Lib.hid (bel_then HB2.out hb4)
    clear hb4 HFS HB2 d0 d1 d2 d3 d4
    have HT4 := Lib.hid (HT.out.below HB4.out)
    obtain ⟨b, off, rfl, hbs, e0, e1, e2, e3, e4, e5, e6⟩ := HT4.out.seven hpn
    cases hu : (Idx.at' l p).u
    · have HG := Lib.hid (Idx.del_b HRI.out HF.out hu)
      rw [hu] at e0
      clear hu e1 e2 e3 e4 e5 e6
      go_wp2_with fail
      go_ret2
      exact HEND.out _ _ HG.out (bel_then HBW.out HB4.out)
    · have HG := Lib.hid (Idx.del_c HRI.out HF.out hu)
      have HEQ := Lib.hid (Idx.del_eq HGOOD.out HF.out hu).1
      obtain ⟨ee, hD⟩ := Idx.del_start HGOOD.out HF.out hu
      rw [hl.out] at hD HG HEQ
      have HD := Lib.hid hD
      have HDF : Hid (Idx.dist n (Idx.adv n p 1) ee < n) := Lib.hid (Idx.dist_lt (Idx.adv_lt (by omega)) (by rw [← hl.out]; exact hD.he))
      have HWN := Lib.hid (with_nil (some ⟨b, off, none⟩) n c l p w4 HT4.out hpn hn)
      have hadv := Idx.adv_int hpn
      have HWS := Lib.hid HBW.out
      rw [hu] at e0
      clear hu hD e1 e2 e3 e4 e5 e6
      go_wp2_with fail
      refine HWN.out.mono ?_
      rintro e w5 ⟨A5, c5, rfl, hT5, hb5⟩
      have HT5 := Lib.hid hT5
      have HB5 := Lib.hid (bel_then (bel_then HBW.out HB4.out) hb5)
      have HADV := Lib.hid hadv
      clear hT5 hb5 HWN HB4 HT4 hadv
      go_wp2_with fail
      obtain ⟨R, hR⟩ : ∃ R, R = Idx.rdelLoop n (l.set p Idx.Cell.nil) (Idx.adv n p 1) := ⟨_, rfl⟩
      rw [HEQ.out, ← hR] at HG
      have HR := Lib.hid hR
      clear hR HEQ
      go_loopg [7, 8] n (fun gg s7 s8 wx => ∃ (f : Nat) (M : List Idx.Cell) (hole a : Nat) (A7 : Option Addr) (c7 : Nat), f ≤ gg ∧ s7 = .slice A7 n c7 ∧ s8 = .int .i64 a ∧ Aside (Idx.DInv l M k hole a ee) ∧ Aside (Idx.rdelLoop f M a = R) ∧ Aside (Idx.dist n a ee < f) ∧ Aside (TabR wx A7 n M) ∧ Aside (Below w.heap.size w wx))
      case atStart => exact ⟨n, l.set p Idx.Cell.nil, p, Idx.adv n p 1, A5, c5, Nat.le_refl _, rfl, by rw [HADV.out], HD.out, HR.out.symm, HDF.out, HT5.out, HB5.out⟩
      case round =>
        clear HT5 HB5
        obtain ⟨f, M, hole, a, A7, c7, hfg, rfl, rfl, BD, BR, BF, BT, BB⟩ := hrel
        have han : a < n := by rw [← hl.out]; exact BD.out.ha
        have hanz : (a : Int) < (n : Int) := by omega
        obtain ⟨b7, off7, rfl, hbs7, e0, e1, e2, e3, e4, e5, e6⟩ := BT.out.seven han
        cases hu : (Idx.at' M a).u
        · rw [hu] at e0
          have HS := Lib.hid (Idx.rstop (f := f) hu)
          clear hu
          go_wp2_with fail
          go_ret2
          rw [HG.out, ← BR.out, HS.out]
          exact ⟨_, _, rfl, BT.out, BB.out⟩
        · obtain ⟨f', p', hole', hff, hfn, hD', hR', hdf⟩ := Idx.rgo BD.out hu (by rw [hl.out]; exact BF.out)
          rw [hl.out] at hD' hR' hdf
          have HKW := Lib.hid (BT.out.keyf a)
          have hp' : p' < n := by have := (Idx.ends_of_fnd hfn).1; rw [List.length_set] at this; have h2 := BT.out.len; omega
          rw [BR.out] at hR'
          have HD' := Lib.hid hD'
          have HR' := Lib.hid hR'
          have HDF' := Lib.hid hdf
          have HFN := Lib.hid hfn
          have HADV := Lib.hid (Idx.adv_int han)
          have hfl : f' + 1 ≤ gk := by omega
          have HTR := Lib.hid BT.out
          have HBB := Lib.hid BB.out
          clear hD' hR' hdf hfn hff BD BR BF BT BB HWS HD HDF HR
          generalize hx : Idx.at' M a = x at *
          have HX := Lib.hid hx
          clear hx
          obtain ⟨xu, xk, xn⟩ := x
          dsimp only at e1 e2 e3 e4 e5 e6 HKW HFN HD' HR'
          dsimp only at hu e0
          subst hu
          go_upto_region 11 with (fail)
          obtain ⟨wq, hwq⟩ : ∃ x, x = wr.alloc (.cells #[.bool true, .int .i64 xk.pr, .int .u32 xk.sr, .int .i64 xk.sp, .int .u32 xk.ds, .int .i64 xk.dp, .int .i64 xn] 52) := ⟨_, rfl⟩
          obtain ⟨g, hgg⟩ : ∃ g, g = wr.heap.size := ⟨_, rfl⟩
          have B7 : BlkV wq g 52 [.bool true, .int .i64 xk.pr, .int .u32 xk.sr, .int .i64 xk.sp, .int .u32 xk.ds, .int .i64 xk.dp, .int .i64 xn] := by rw [hwq, hgg]; exact BlkV.new _ _ _
          have hwr : Below wr.heap.size wr wq := by rw [hwq]; exact bel_al2 (Below.refl _ _) _
          have HBQ := Lib.hid (bel_then HBB.out hwr)
          have HTQ := Lib.hid (HTR.out.below hwr)
          rw [← hwq, ← hgg]
          clear hwq hgg hwr HBB HTR e0 e1 e2 e3 e4 e5 e6
          have HB7 := Lib.hid B7
          have HWN := Lib.hid (with_nil _ n c7 M a wq HTQ.out han hn)
          clear B7
          go_wp2_with fail
          refine HWN.out.mono ?_
          rintro e wv ⟨A6, c6, rfl, hT6, hb6⟩
          have HBV := Lib.hid (bel_then HBQ.out hb6)
          have HSK : Hid (∀ w' : World, Below wv.heap.size wv w' → Calls Try.prog 24 #[.slice A6 n c6, .agg #[.int .i64 xk.pr, .int .u32 xk.sr, .int .i64 xk.sp, .int .u32 xk.ds, .int .i64 xk.dp]] w' fun e w'' => e = .returned (.int .i64 p') ∧ Below w'.heap.size w' w'') := Lib.hid fun w' hb => seek_spec A6 n c6 _ xk p' w' (hT6.below hb) HKW.out hn HFN.out
          have HWI : Hid (∀ w' : World, Below wv.heap.size wv w' → Calls Try.prog 28 #[.slice A6 n c6, .int .i64 p', .agg #[.bool true, .int .i64 xk.pr, .int .u32 xk.sr, .int .i64 xk.sp, .int .u32 xk.ds, .int .i64 xk.dp, .int .i64 xn]] w' fun e w'' => ∃ A' c', e = .returned (.slice A' n c') ∧ TabR w'' A' n ((M.set a Idx.Cell.nil).set p' ⟨true, xk, xn⟩) ∧ Below w'.heap.size w' w'') := Lib.hid fun w' hb => with_spec A6 n c6 _ p' ⟨true, xk, xn⟩ w' (hT6.below hb) HKW.out hp' hn
          have K7 : Hid (∀ w' : World, Below wv.heap.size wv w' → w'.cell? ⟨g, 0, none⟩ = some (.bool true) ∧ w'.cell? ⟨g, 1, none⟩ = some (.int .i64 xk.pr) ∧ w'.cell? ⟨g, 2, none⟩ = some (.int .u32 xk.sr) ∧ w'.cell? ⟨g, 3, none⟩ = some (.int .i64 xk.sp) ∧ w'.cell? ⟨g, 4, none⟩ = some (.int .u32 xk.ds) ∧ w'.cell? ⟨g, 5, none⟩ = some (.int .i64 xk.dp) ∧ w'.cell? ⟨g, 6, none⟩ = some (.int .i64 xn)) := Lib.hid fun w' hb => cell7 ((HB7.out.below hb6).below hb)
          clear hb6 hT6 HWN HBQ HTQ HB7
          go_upto_region 12 with (fail)
          go_region_held3 (fun w' => w'.cell? ⟨g, 0, none⟩ = some (.bool true) ∧ w'.cell? ⟨g, 1, none⟩ = some (.int .i64 xk.pr) ∧ w'.cell? ⟨g, 2, none⟩ = some (.int .u32 xk.sr) ∧ w'.cell? ⟨g, 3, none⟩ = some (.int .i64 xk.sp) ∧ w'.cell? ⟨g, 4, none⟩ = some (.int .u32 xk.ds) ∧ w'.cell? ⟨g, 5, none⟩ = some (.int .i64 xk.dp) ∧ w'.cell? ⟨g, 6, none⟩ = some (.int .i64 xn)) (exact K7.out _ (by repeat (first | with_reducible exact hbn | with_reducible exact Below.refl wv.heap.size wv | with_reducible refine bel_al2 ?_ _ | with_reducible refine bel_dr2 ?_ | with_reducible refine bel_drN2 ?_ _)))
            (first | ((with_reducible refine (HSK.out _ (by repeat (first | with_reducible exact hbn | with_reducible exact Below.refl wv.heap.size wv | with_reducible refine bel_al2 ?_ _ | with_reducible refine bel_dr2 ?_ | with_reducible refine bel_drN2 ?_ _))).mono ?_); rintro e w6 ⟨rfl, hb6⟩; have hbn : Below wv.heap.size wv w6 := bel_then (by repeat (first | with_reducible exact hbn | with_reducible exact Below.refl wv.heap.size wv | with_reducible refine bel_al2 ?_ _ | with_reducible refine bel_dr2 ?_ | with_reducible refine bel_drN2 ?_ _)) hb6) | ((with_reducible refine (HWI.out _ (by repeat (first | with_reducible exact hbn | with_reducible exact Below.refl wv.heap.size wv | with_reducible refine bel_al2 ?_ _ | with_reducible refine bel_dr2 ?_ | with_reducible refine bel_drN2 ?_ _))).mono ?_); rintro e w7 ⟨A7', c7', rfl, hT7, hb7⟩; have hbn : Below wv.heap.size wv w7 := bel_then (by repeat (first | with_reducible exact hbn | with_reducible exact Below.refl wv.heap.size wv | with_reducible refine bel_al2 ?_ _ | with_reducible refine bel_dr2 ?_ | with_reducible refine bel_drN2 ?_ _)) hb7))
          have HBN := Lib.hid (bel_then HBV.out (by repeat (first | with_reducible exact hbn | with_reducible exact Below.refl wv.heap.size wv | with_reducible refine bel_al2 ?_ _ | with_reducible refine bel_dr2 ?_ | with_reducible refine bel_drN2 ?_ _)))
          have HT7 := Lib.hid hT7
          have HHA := HADV.out
          clear HSK HWI K7
          go_wp2_with fail
          go_roundg f'
          case measure => omega
          case rel => exact ⟨f', _, hole', Idx.adv n a 1, A7', c7', by omega, rfl, rfl, HD'.out, HR'.out.symm, HDF'.out, HT7.out, HBN.out⟩
end Go.Proofs.Ytdfbfhejigifoaa
