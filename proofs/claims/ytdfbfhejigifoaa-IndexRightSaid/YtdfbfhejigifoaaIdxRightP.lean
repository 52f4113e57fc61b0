/- The walk of IndexRight. -/
import Derived.Test.YtdfbfhejigifoaaIdxRefE
import Derived.Test.YtdfbfhejigifoaaIdxAwake
namespace Go.Proofs.Ytdfbfhejigifoaa
open Go.RowKit
set_option linter.unusedVariables false
def Idx.new (y : Int) : List Idx.Cell × Int := if Idx.size y then (List.replicate y.toNat Idx.Cell.nil, 0) else ([], 1)
theorem Idx.new_len (y : Int) : (Idx.new y).1.length ≤ 1024 := by
  unfold Idx.new
  split
  · rename_i h
    have := Idx.size_bd h
    simp only [List.length_replicate]; omega
  · simp
def NewR (w : World) (r : List Idx.Cell × Int) (e : Ending) (w' : World) : Prop := ∃ X cX, e = .returned (.tuple #[.slice X r.1.length cX, .int .i64 r.2]) ∧ TabR w' X r.1.length r.1 ∧ Below w.heap.size w w'
theorem nil_tab (w : World) : TabR w none 0 [] := ⟨rfl, by simp, rfl, fun h => absurd h (Nat.lt_irrefl _)⟩
theorem new_any (y : Int) (w : World) (h0 : -9223372036854775808 ≤ y) (h1 : y ≤ 9223372036854775807) : Calls Try.prog 8 #[.int .i64 y] w (NewR w (Idx.new y)) := by
  unfold Idx.new
  cases hs : Idx.size y
  · exact (new_no y w h0 h1 hs).mono fun e w' ⟨he, hw⟩ => ⟨none, 0, he, by subst hw; exact nil_tab _, by subst hw; exact Below.refl _ _⟩
  · have hb := Idx.size_bd hs
    obtain ⟨N, rfl⟩ := Int.eq_ofNat_of_zero_le (a := y) (by omega)
    refine (new_yes N w hs).mono fun e w' ⟨g, he, hT, hb⟩ => ⟨some ⟨g, 0, none⟩, N, ?_, ?_, hb⟩
    · simpa using he
    · simpa using hT
theorem rnew_any (y : Int) (w : World) : Calls Try.prog 9 #[.int .i64 y] w (NewR w (Idx.new y)) := by
  unfold Idx.new
  cases hs : Idx.size y
  · exact (rnew_no y w hs).mono fun e w' ⟨he, hw⟩ => ⟨none, 0, he, by subst hw; exact nil_tab _, by subst hw; exact Below.refl _ _⟩
  · have hb := Idx.size_bd hs
    obtain ⟨N, rfl⟩ := Int.eq_ofNat_of_zero_le (a := y) (by omega)
    refine (rnew_yes N w hs).mono fun e w' ⟨g, he, hT, hb⟩ => ⟨some ⟨g, 0, none⟩, N, ?_, ?_, hb⟩
    · simpa using he
    · simpa using hT
theorem TabR.of_own7 {w : World} {base n c : Nat} {A : Option Addr} {l : List Idx.Cell} (h : w.ownsRow base 52 7 (.slice A n c) n (tcells l)) (hl : l.length = n) (hwf : ∀ c ∈ l, c.k.wf) : TabR w A n l := ⟨hl, hwf, Rd.of_own h⟩
set_option maxRecDepth 8000 in
set_option maxHeartbeats 16000000 in
theorem IndexRight_walk (A : Option Addr) (n c : Nat) (l : List Idx.Cell) (k : Idx.Key) (x y : Int) (w : World) (hT : TabR w A n l) (hn : n ≤ 9223372036854775807) (hk : k.wf) (hy0 : -9223372036854775808 ≤ y) (hy1 : y ≤ 9223372036854775807) :
    Calls Try.prog 3 #[.slice A n c, .agg #[.int .i64 k.pr, .int .u32 k.sr, .int .i64 k.sp, .int .u32 k.ds, .int .i64 k.dp], .int .i64 x, .int .i64 y] w fun e w' => e = .returned (.bool true) ∧ Below w.heap.size w w' := by
  obtain ⟨W, hW⟩ : ∃ W, W = w.alloc (.cells #[.int .i64 k.pr, .int .u32 k.sr, .int .i64 k.sp, .int .u32 k.ds, .int .i64 k.dp] 25) := ⟨_, rfl⟩
  have hbW : Below w.heap.size w W := by rw [hW]; exact (Below.refl _ _).alloc (Nat.le_refl _) _
  have K5 : Hid (∀ w' : World, Below W.heap.size W w' → w'.cell? ⟨w.heap.size, 0, none⟩ = some (.int .i64 k.pr) ∧ w'.cell? ⟨w.heap.size, 1, none⟩ = some (.int .u32 k.sr) ∧ w'.cell? ⟨w.heap.size, 2, none⟩ = some (.int .i64 k.sp) ∧ w'.cell? ⟨w.heap.size, 3, none⟩ = some (.int .u32 k.ds) ∧ w'.cell? ⟨w.heap.size, 4, none⟩ = some (.int .i64 k.dp)) := Lib.hid fun w' hb => key_c5 W k w.heap.size (by rw [hW]; exact BlkV.new _ _ _) w' hb
  have HT := Lib.hid (hT.below hbW)
  have hl := Lib.hid hT.len
  have HWF := Lib.hid hT.wf
  have HBW := Lib.hid hbW
  have HAW := Lib.hid (idx_awake W)
  clear hT
  go_enter Try.func3, Try.ntmps3
  go_upto_region 1 with (fail)
  rw [← hW]
  clear hW hbW
  go_wp2_with fail
  refine HAW.out.mono ?_
  rintro e w1 ⟨rfl, hb⟩
  have HB1 := Lib.hid (bel_then HBW.out hb)
  have HT1 := Lib.hid (HT.out.below hb)
  have K1 : Hid (∀ w' : World, Below w1.heap.size w1 w' → w'.cell? ⟨w.heap.size, 0, none⟩ = some (.int .i64 k.pr) ∧ w'.cell? ⟨w.heap.size, 1, none⟩ = some (.int .u32 k.sr) ∧ w'.cell? ⟨w.heap.size, 2, none⟩ = some (.int .i64 k.sp) ∧ w'.cell? ⟨w.heap.size, 3, none⟩ = some (.int .u32 k.ds) ∧ w'.cell? ⟨w.heap.size, 4, none⟩ = some (.int .i64 k.dp)) := Lib.hid fun w' h' => K5.out w' (bel_then hb h')
  clear hb HT HBW K5 HAW
  by_cases h64 : n ≤ 64
  · have h64z : (n : Int) ≤ 64 := by omega
    have hnl := Idx.new_len y
    have HNW := Lib.hid (new_any y w1 hy0 hy1)
    have HRW := Lib.hid (fun w' => rnew_any y w')
    unfold NewR at HNW HRW
    generalize Idx.new y = nw at HNW HRW hnl
    obtain ⟨L, er⟩ := nw
    dsimp only at HNW HRW hnl
    go_wp2_with fail
    refine HNW.out.mono ?_
    rintro e w2 ⟨X, cX, rfl, hTX, hb⟩
    have HB2 := Lib.hid (bel_then HB1.out hb)
    have HT2 := Lib.hid (HT1.out.below hb)
    have HX2 := Lib.hid hTX
    have K2 : Hid (∀ w' : World, Below w2.heap.size w2 w' → w'.cell? ⟨w.heap.size, 0, none⟩ = some (.int .i64 k.pr) ∧ w'.cell? ⟨w.heap.size, 1, none⟩ = some (.int .u32 k.sr) ∧ w'.cell? ⟨w.heap.size, 2, none⟩ = some (.int .i64 k.sp) ∧ w'.cell? ⟨w.heap.size, 3, none⟩ = some (.int .u32 k.ds) ∧ w'.cell? ⟨w.heap.size, 4, none⟩ = some (.int .i64 k.dp)) := Lib.hid fun w' h' => K1.out w' (bel_then hb h')
    clear hb hTX HNW HB1 HT1 K1
    go_wp2_with fail
    refine (HRW.out w2).mono ?_
    rintro e w3 ⟨Y, cY, rfl, hTY, hb⟩
    have HB3 := Lib.hid (bel_then HB2.out hb)
    have HT3 := Lib.hid (HT2.out.below hb)
    have K3 : Hid (∀ w' : World, Below w3.heap.size w3 w' → w'.cell? ⟨w.heap.size, 0, none⟩ = some (.int .i64 k.pr) ∧ w'.cell? ⟨w.heap.size, 1, none⟩ = some (.int .u32 k.sr) ∧ w'.cell? ⟨w.heap.size, 2, none⟩ = some (.int .i64 k.sp) ∧ w'.cell? ⟨w.heap.size, 3, none⟩ = some (.int .u32 k.ds) ∧ w'.cell? ⟨w.heap.size, 4, none⟩ = some (.int .i64 k.dp)) := Lib.hid fun w' h' => K2.out w' (bel_then hb h')
    have HS := Lib.hid (same_spec X L.length cX L Y L.length cY L w3 (HX2.out.below hb) hTY (by omega) (by omega))
    rw [show decide (L = L) = true by simp] at HS
    clear hb hTY HRW HX2 HB2 HT2 K2
    go_wp2_with fail
    refine HS.out.mono ?_
    rintro e w4 ⟨rfl, hb⟩
    have HB4 := Lib.hid (bel_then HB3.out hb)
    have HT4 := Lib.hid (HT3.out.below hb)
    have K4 : Hid (∀ w' : World, Below w4.heap.size w4 w' → w'.cell? ⟨w.heap.size, 0, none⟩ = some (.int .i64 k.pr) ∧ w'.cell? ⟨w.heap.size, 1, none⟩ = some (.int .u32 k.sr) ∧ w'.cell? ⟨w.heap.size, 2, none⟩ = some (.int .i64 k.sp) ∧ w'.cell? ⟨w.heap.size, 3, none⟩ = some (.int .u32 k.ds) ∧ w'.cell? ⟨w.heap.size, 4, none⟩ = some (.int .i64 k.dp)) := Lib.hid fun w' h' => K3.out w' (bel_then hb h')
    clear hb HS HB3 HT3 K3
    go_upto_region 10 with (at_builtin; refine wpList_app0 _ rfl (.tmp 44) (.tmp 45) 22 rfl w4 (by exact Below.refl _ _) 52 (.agg #[.bool false, .int .i64 0, .int .u32 0, .int .i64 0, .int .u32 0, .int .i64 0, .int .i64 0]) 7 56 Try.underlying22 infoC rfl (by decide) rfl A n c (tcells l) rfl (by exact HT4.out.rd) (one_tcells _) (by unfold maxLen; omega) (by omega) ?_; intro A5 c5 w5 hown5 hb5 hg5 hat5)
    have HM5 := Lib.hid (TabR.of_own7 hown5 hl.out HWF.out)
    have HB5 := Lib.hid (bel_then HB4.out hb5)
    have HT5 := Lib.hid (HT4.out.below hb5)
    have K : Hid (∀ w' : World, Below w5.heap.size w5 w' → w'.cell? ⟨w.heap.size, 0, none⟩ = some (.int .i64 k.pr) ∧ w'.cell? ⟨w.heap.size, 1, none⟩ = some (.int .u32 k.sr) ∧ w'.cell? ⟨w.heap.size, 2, none⟩ = some (.int .i64 k.sp) ∧ w'.cell? ⟨w.heap.size, 3, none⟩ = some (.int .u32 k.ds) ∧ w'.cell? ⟨w.heap.size, 4, none⟩ = some (.int .i64 k.dp)) := Lib.hid fun w' h' => K4.out w' (bel_then hb5 h')
    clear hown5 hb5 hg5 hat5 HB4 HT4 K4
    -- looked for
    obtain ⟨d0, d1, d2, d3, d4⟩ := K.out w5 (Below.refl _ _)
    have HG := Lib.hid (get_spec A5 n c5 l k w5 HM5.out hk (by omega))
    have HRG := Lib.hid (fun w' (hb : Below w5.heap.size w5 w') => rget_spec A n c l k w' (HT5.out.below hb) hk (by omega))
    generalize Idx.get l k = gt at HG HRG
    obtain ⟨gn, gb⟩ := gt
    dsimp only at HG HRG
    go_wp2_with fail
    refine HG.out.mono ?_
    rintro e w6 ⟨rfl, hb⟩
    have HB6 := Lib.hid hb
    clear hb HG d0 d1 d2 d3 d4
    obtain ⟨d0, d1, d2, d3, d4⟩ := K.out w6 HB6.out
    go_wp2_with fail
    refine (HRG.out w6 HB6.out).mono ?_
    rintro e w7 ⟨rfl, hb⟩
    have HB7 := Lib.hid (bel_then HB6.out hb)
    clear hb HRG d0 d1 d2 d3 d4 HB6
    have HR1 := Lib.hid (iright_spec A5 n c5 l w7 (HM5.out.below HB7.out) (by omega))
    have HR2 := Lib.hid (fun w' (hb : Below w5.heap.size w5 w') => rright_spec A n c l w' (HT5.out.below hb) (by omega))
    generalize Idx.Right l = rt at HR1 HR2
    go_wp2_with fail
    refine HR1.out.mono ?_
    rintro e w8 ⟨rfl, hb⟩
    have HB8 := Lib.hid (bel_then HB7.out hb)
    clear hb HR1 HB7
    go_wp2_with fail
    refine (HR2.out w8 HB8.out).mono ?_
    rintro e w9 ⟨rfl, hb⟩
    have HB9 := Lib.hid (bel_then HB8.out hb)
    clear hb HR2 HB8
    have HL1 := Lib.hid (len_spec A5 n c5 l w9 (HM5.out.below HB9.out) (by omega))
    have HL2 := Lib.hid (fun w' (hb : Below w5.heap.size w5 w') => rlen_spec A n c l w' (HT5.out.below hb) (by omega))
    generalize Idx.many l = mn at HL1 HL2
    go_wp2_with fail
    refine HL1.out.mono ?_
    rintro e w10 ⟨rfl, hb⟩
    have HB10 := Lib.hid (bel_then HB9.out hb)
    clear hb HL1 HB9
    go_wp2_with fail
    refine (HL2.out w10 HB10.out).mono ?_
    rintro e w10 ⟨rfl, rfl⟩
    clear HL2
    -- put
    obtain ⟨d0, d1, d2, d3, d4⟩ := K.out _ HB10.out
    have HP := Lib.hid (put_spec A5 n c5 l k x _ (HM5.out.below HB10.out) hk (by omega))
    have HRP := Lib.hid (fun w' (hb : Below w5.heap.size w5 w') => rput_spec A n c l k x w' (HT5.out.below hb) hk (by omega))
    generalize Idx.put l k x = pt at HP HRP
    obtain ⟨pl, pe⟩ := pt
    unfold TabRet at HP HRP
    dsimp only at HP HRP
    go_wp2_with fail
    refine HP.out.mono ?_
    rintro e w11 ⟨A6, c6, rfl, hT6, hb⟩
    have HB11 := Lib.hid (bel_then HB10.out hb)
    have HT6 := Lib.hid hT6
    clear hb HP HB10 d0 d1 d2 d3 d4 hT6
    obtain ⟨d0, d1, d2, d3, d4⟩ := K.out w11 HB11.out
    go_wp2_with fail
    refine (HRP.out w11 HB11.out).mono ?_
    rintro e w12 ⟨A7, c7, rfl, hT7, hb⟩
    have HB12 := Lib.hid (bel_then HB11.out hb)
    have HS := Lib.hid (same_spec A6 n c6 pl A7 n c7 pl w12 (HT6.out.below hb) hT7 (by omega) (by omega))
    rw [show decide (pl = pl) = true by simp] at HS
    clear hb HRP HB11 d0 d1 d2 d3 d4 hT7 HT6
    go_wp2_with fail
    refine HS.out.mono ?_
    rintro e w13 ⟨rfl, hb⟩
    have HB13 := Lib.hid (bel_then HB12.out hb)
    clear hb HS HB12
    -- taken out
    obtain ⟨d0, d1, d2, d3, d4⟩ := K.out _ HB13.out
    have HP := Lib.hid (del_spec A5 n c5 l k _ (HM5.out.below HB13.out) hk (by omega))
    have HRP := Lib.hid (fun w' (hb : Below w5.heap.size w5 w') => rdel_spec A n c l k w' (HT5.out.below hb) hk (by omega))
    generalize Idx.del l k = pt at HP HRP
    obtain ⟨dl, de⟩ := pt
    unfold TabRet at HP HRP
    dsimp only at HP HRP
    go_wp2_with fail
    refine HP.out.mono ?_
    rintro e w14 ⟨A8, c8, rfl, hT8, hb⟩
    have HB14 := Lib.hid (bel_then HB13.out hb)
    have HT8 := Lib.hid hT8
    clear hb HP HB13 d0 d1 d2 d3 d4 hT8
    obtain ⟨d0, d1, d2, d3, d4⟩ := K.out w14 HB14.out
    go_wp2_with fail
    refine (HRP.out w14 HB14.out).mono ?_
    rintro e w15 ⟨A9, c9, rfl, hT9, hb⟩
    have HB15 := Lib.hid (bel_then HB14.out hb)
    have HS := Lib.hid (same_spec A8 n c8 dl A9 n c9 dl w15 (HT8.out.below hb) hT9 (by omega) (by omega))
    rw [show decide (dl = dl) = true by simp] at HS
    clear hb HRP HB14 d0 d1 d2 d3 d4 hT9 HT8
    go_wp2_with fail
    refine HS.out.mono ?_
    rintro e w16 ⟨rfl, hb⟩
    have HB16 := Lib.hid (bel_then HB15.out hb)
    clear hb HS HB15
    have HS := Lib.hid (same_spec A5 n c5 l A n c l w16 (HM5.out.below HB16.out) (HT5.out.below HB16.out) (by omega) (by omega))
    rw [show decide (l = l) = true by simp] at HS
    go_wp2_with fail
    refine HS.out.mono ?_
    rintro e w17 ⟨rfl, hb⟩
    have HB17 := Lib.hid (bel_then HB5.out (bel_then HB16.out hb))
    clear hb HS
    go_wp2_with fail
    go_ret
    exact ⟨rfl, HB17.out⟩
  · have h64z : ¬ (n : Int) ≤ 64 := by omega
    go_wp2_with fail
    go_ret
    exact ⟨rfl, HB1.out⟩
end Go.Proofs.Ytdfbfhejigifoaa
