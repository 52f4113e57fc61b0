/- The walk of index.Del. -/
import Derived.Test.YtdboehogkmidbaaIdxPut
import Derived.Test.YtdboehogkmidbaaIdxPlain
namespace Go.Proofs.Ytdboehogkmidbaa
open Go.RowKit
set_option linter.unusedVariables false
set_option maxRecDepth 8000 in
set_option maxHeartbeats 8000000 in
theorem del_spec2 (A : Option Addr) (n c : Nat) (l : List Idx.Cell) (k : Idx.Key) (w : World) (hT : TabR w A n l) (hk : k.wf) (hn : n ≤ 1000000) :
    Calls Try.prog 38 #[.slice A n c, .agg #[.int .i64 k.pr, .int .u32 k.sr, .int .i64 k.sp, .int .u32 k.ds, .int .i64 k.dp]] w (TabNew w n (Idx.del l k)) := by
  obtain ⟨W, hW⟩ : ∃ W, W = w.alloc (.cells #[.int .i64 k.pr, .int .u32 k.sr, .int .i64 k.sp, .int .u32 k.ds, .int .i64 k.dp] 29) := ⟨_, rfl⟩
  have hbW : Below w.heap.size w W := by rw [hW]; exact (Below.refl _ _).alloc (Nat.le_refl _) _
  have K5 : Hid (∀ w' : World, Below W.heap.size W w' → w'.cell? ⟨w.heap.size, 0, none⟩ = some (.int .i64 k.pr) ∧ w'.cell? ⟨w.heap.size, 1, none⟩ = some (.int .u32 k.sr) ∧ w'.cell? ⟨w.heap.size, 2, none⟩ = some (.int .i64 k.sp) ∧ w'.cell? ⟨w.heap.size, 3, none⟩ = some (.int .u32 k.ds) ∧ w'.cell? ⟨w.heap.size, 4, none⟩ = some (.int .i64 k.dp)) := Lib.hid fun w' hb => key_c5 W k w.heap.size (by rw [hW]; exact BlkV.new _ _ _) w' hb
  have HT := Lib.hid (hT.below hbW)
  have hl := Lib.hid hT.len
  have HWF := Lib.hid hT.wf
  have HC := Lib.hid (clone_spec A n c l W HT.out hn)
  have hpl : ∀ p, Idx.fnd l k = some p → p < n := fun p h => by rw [← hT.len]; exact (Idx.ends_of_fnd h).1
  clear hT
  have HBW := Lib.hid hbW
  go_enter Try.func38, Try.ntmps38
  go_upto_region 1 with (fail)
  rw [← hW]
  clear hW hbW
  go_wp2_with fail
  refine HC.out.mono ?_
  rintro e w1 ⟨A1, c1, rfl, hown, hb1⟩
  have HO : Hid (w1.ownsRow w.heap.size 82 7 (.slice A1 n c1) n (tcells l)) := Lib.hid (own_weak hown HBW.out.size)
  have HB1 := Lib.hid (bel_then HBW.out hb1)
  have HR := Lib.hid (iright_spec A n c l w1 (HT.out.below hb1) (by omega))
  have HT1 := Lib.hid (HT.out.below hb1)
  have K5' : Hid (∀ w' : World, Below w1.heap.size w1 w' → w'.cell? ⟨w.heap.size, 0, none⟩ = some (.int .i64 k.pr) ∧ w'.cell? ⟨w.heap.size, 1, none⟩ = some (.int .u32 k.sr) ∧ w'.cell? ⟨w.heap.size, 2, none⟩ = some (.int .i64 k.sp) ∧ w'.cell? ⟨w.heap.size, 3, none⟩ = some (.int .u32 k.ds) ∧ w'.cell? ⟨w.heap.size, 4, none⟩ = some (.int .i64 k.dp)) := Lib.hid fun w' hb => K5.out w' (bel_then hb1 hb)
  clear hown hb1 HC HBW HT K5
  cases hr : Idx.Right l
  · have HG := Lib.hid (Idx.del_a (k := k) hr)
    rw [hr] at HR
    clear hr
    go_wp2_with fail
    refine HR.out.mono ?_
    rintro e w2 ⟨rfl, hb2⟩
    go_wp2_with fail
    go_ret2
    exact tabRet_of HG.out HO.out hl.out HWF.out HB1.out hb2
  · have HRI := Lib.hid hr
    have HGOOD := Lib.hid (Idx.right_iff.1 hr)
    obtain ⟨p, hp⟩ := HGOOD.out.found k
    have hpn := hpl p hp
    have hs := HGOOD.out.size
    rw [hl.out] at hs
    have hsz := Idx.size_bd hs
    have HN := Lib.hid hs
    have HF := Lib.hid hp
    rw [hr] at HR
    clear hr hs hp hpl
    go_wp2_with fail
    refine HR.out.mono ?_
    rintro e w2 ⟨rfl, hb2⟩
    have HB2 := Lib.hid hb2
    obtain ⟨d0, d1, d2, d3, d4⟩ := K5'.out w2 hb2
    have HT3 := Lib.hid (HT1.out.below HB2.out)
    have HFS := Lib.hid (find_spec A n c l k p w2 HT3.out hk HN.out HF.out)
    clear hb2 HR
    go_wp2_with fail
    refine HFS.out.mono ?_
    rintro e w4 ⟨rfl, hb4⟩
    have HB4 := Lib.hid (bel_then HB2.out hb4)
    clear hb4 HFS HB2 d0 d1 d2 d3 d4 HT3 HT1 K5'
    cases hu : (Idx.at' l p).u
    · have HG := Lib.hid (Idx.del_b HRI.out HF.out hu)
      clear hu
      go_wp2_with fail
      go_ret2
      exact tabRet_of HG.out HO.out hl.out HWF.out HB1.out HB4.out
    · have HG := Lib.hid (Idx.del_c HRI.out HF.out hu)
      obtain ⟨ee, hD⟩ := Idx.DSt.start HGOOD.out HF.out hu
      rw [hl.out] at hD HG
      have HD := Lib.hid hD
      obtain ⟨g, rest, rfl, hgb, hTO⟩ := TabO.of_own HO.out (by omega) hl.out HWF.out
      have HTO := Lib.hid (hTO.below HB4.out)
      have HB5 := Lib.hid (bel_then HB1.out HB4.out)
      have HGB := Lib.hid hgb
      have HMSK : Hid (∀ a : Nat, a < n → Go.bits .and .i64 ((a : Int) + 1) ((n : Int) - 1) = (Idx.adv n a 1 : Nat)) := Lib.hid fun a ha => by rw [Idx.mask_bits HN.out, Idx.adv_int ha]
      have HDIF : Hid (∀ a b : Nat, a < n → b < n → Go.bits .and .i64 ((b : Int) - (a : Int)) ((n : Int) - 1) = (Idx.dist n a b : Nat)) := Lib.hid fun a b ha hb => by rw [Idx.mask_bits HN.out, Idx.dist_int ha hb]
      have HHOM : Hid (∀ q : Idx.Key, Go.bits .and .i64 (Idx.hash q) ((n : Int) - 1) = (Idx.home n q : Nat)) := Lib.hid fun q => by rw [Idx.mask_bits HN.out, Idx.home_int]
      have hm1 := HMSK.out p hpn
      clear hu hD hTO hgb HO HB4 HB1
      go_wp2_with fail
      clear hm1
      obtain ⟨R, hR⟩ : ∃ R, R = Idx.delLoop n l p (Idx.adv n p 1) := ⟨_, rfl⟩
      rw [← hR] at HG
      have HR := Lib.hid hR
      clear hR
      go_loopg [7, 10] n (fun gg s7 s10 wx => ∃ (f : Nat) (out : List Idx.Cell) (hole a : Nat), f ≤ gg ∧ s7 = .int .i64 hole ∧ s10 = .int .i64 a ∧ Aside (Idx.DSt l k ee f out hole a) ∧ Aside (Idx.delLoop f out hole a = R) ∧ Aside (TabO wx g n out rest) ∧ Aside (Below w.heap.size w wx))
      case atStart => exact ⟨n, l, p, _, Nat.le_refl _, rfl, rfl, HD.out, HR.out.symm, HTO.out, HB5.out⟩
      case round =>
        clear HTO HB5
        obtain ⟨f, out, hole, a, hfg, rfl, rfl, BD, BR, BT, BB⟩ := hrel
        have han : a < n := by rw [← hl.out]; exact BD.out.inv.ha
        have hhn : hole < n := by rw [← hl.out]; exact BD.out.inv.hh
        have hanz : (a : Int) < (n : Int) := by omega
        have hhnz : (hole : Int) < (n : Int) := by omega
        obtain ⟨-, g0, g1, g2, g3, g4, g5, g6⟩ := BT.out.facts han
        cases hu : (Idx.at' out a).u
        · rw [hu] at g0
          have HS := Lib.hid (BD.out.stop hu)
          clear hu
          obtain ⟨⟨f0, f1, f2, f3, f4, f5, f6⟩, h0, h1, h2, h3, h4, h5, h6⟩ := BT.out.facts hhn
          go_wp2_with fail
          go_ret2
          obtain ⟨k1, k2⟩ := BT.out.store hhn Idx.Cell.nil nil_wf
          rw [HG.out, ← BR.out, HS.out]
          exact ⟨_, _, rfl, k1.rd, k2.bel HGB.out BB.out, fun a ha => by injection ha with ha; subst ha; exact ⟨HGB.out, _, k1.blk⟩⟩
        · have hkw : (Idx.at' out a).k.wf := BT.out.rd.keyf a
          have HH := Lib.hid (thash_spec (Idx.at' out a).k hkw wr)
          have HST := Lib.hid (fun hd => BD.out.stay hu hd)
          have HMV := Lib.hid (fun hd => BD.out.move hu hd)
          have hom := HHOM.out (Idx.at' out a).k
          have hbd := Idx.hash_bd (Idx.at' out a).k
          have hhl : Idx.home n (Idx.at' out a).k < n := Idx.home_lt (by omega) _
          rw [hu] at g0
          rw [hl.out] at HST HMV
          clear hu
          generalize hx : Idx.at' out a = x at *
          have HX := Lib.hid hx
          clear hx
          obtain ⟨xu, xk, xn⟩ := x
          dsimp only at hkw HH HST HMV hom hbd hhl g0 g1 g2 g3 g4 g5 g6
          generalize Idx.hash xk = H at *
          generalize hh : Idx.home n xk = h at *
          have hd1 := HDIF.out h a hhl han
          have hd2 := HDIF.out hole a hhn han
          have hm1 := HMSK.out a han
          clear hh
          generalize hda : Idx.dist n h a = da at *
          generalize hdb : Idx.dist n hole a = db at *
          generalize hna : Idx.adv n a 1 = na at *
          have HNA := Lib.hid hna
          clear hda hdb hna
          go_wp2_with fail
          refine HH.out.mono ?_
          rintro e w5 ⟨rfl, hb5⟩
          have HBw := Lib.hid (bel_then BB.out hb5)
          have BT5 := Lib.hid (BT.out.below hb5)
          clear hb5 HH g0 g1 g2 g3 g4 g5 g6
          by_cases hd : db ≤ da
          · have hdz : (db : Int) ≤ (da : Int) := by omega
            obtain ⟨f', hf', hD', hR'⟩ := HMV.out hd
            rw [BR.out] at hR'
            have HD' := Lib.hid hD'
            have HR' := Lib.hid hR'
            have hfl : f' + 1 ≤ gk := by omega
            clear hd hD' hR' HMV HST hf'
            obtain ⟨-, g0, g1, g2, g3, g4, g5, g6⟩ := BT5.out.facts han
            rw [HX.out] at g0 g1 g2 g3 g4 g5 g6
            dsimp only at g0 g1 g2 g3 g4 g5 g6
            obtain ⟨⟨f0, f1, f2, f3, f4, f5, f6⟩, h0, h1, h2, h3, h4, h5, h6⟩ := BT5.out.facts hhn
            go_wp2_with fail
            obtain ⟨k1, k2⟩ := BT5.out.store hhn ⟨xu, xk, xn⟩ hkw
            go_roundg f'
            case measure => omega
            case rel => exact ⟨f', out.set hole ⟨xu, xk, xn⟩, a, na, by omega, rfl, rfl, HD'.out, HR'.out.symm, k1, k2.bel HGB.out HBw.out⟩
          · have hdz : ¬ (db : Int) ≤ (da : Int) := by omega
            obtain ⟨f', hf', hD', hR'⟩ := HST.out hd
            rw [BR.out] at hR'
            have HD' := Lib.hid hD'
            have HR' := Lib.hid hR'
            have hfl : f' + 1 ≤ gk := by omega
            clear hd hD' hR' HMV HST hf'
            go_wp2_with fail
            go_roundg f'
            case measure => omega
            case rel => exact ⟨f', out, hole, na, by omega, rfl, rfl, HD'.out, HR'.out.symm, BT5.out, HBw.out⟩
theorem del_spec (A : Option Addr) (n c : Nat) (l : List Idx.Cell) (k : Idx.Key) (w : World) (hT : TabR w A n l) (hk : k.wf) (hn : n ≤ 1000000) :
    Calls Try.prog 38 #[.slice A n c, .agg #[.int .i64 k.pr, .int .u32 k.sr, .int .i64 k.sp, .int .u32 k.ds, .int .i64 k.dp]] w (TabRet w n (Idx.del l k)) :=
  (del_spec2 A n c l k w hT hk hn).mono fun _ _ ⟨A', c', h1, h2, h3, _⟩ => ⟨A', c', h1, h2, h3⟩
end Go.Proofs.Ytdboehogkmidbaa
