/- The walk of casematelaw10's awake. -/
import Derived.Test.YtdfbfhejigifoaaIdxSame
namespace Go.Proofs.Ytdfbfhejigifoaa
open Go.RowKit
set_option linter.unusedVariables false
theorem k1_wf : (⟨0, 1, 0, 0, 0⟩ : Idx.Key).wf := ⟨⟨by decide, by decide⟩, by decide, by decide⟩
set_option maxHeartbeats 4000000 in
theorem idx_awake (w : World) : Calls Try.prog 7 #[] w fun e w' => e = .returned (.bool true) ∧ Below w.heap.size w w' := by
  obtain ⟨R, S, h1, h2, h3, h4, h5, h6, h7⟩ := Idx.aw (k := ⟨0, 1, 0, 0, 0⟩) (by decide)
  have HN := Lib.hid (new_yes 4 w (by decide))
  have H1 := Lib.hid h1
  have H3 := Lib.hid h3
  have H4 := Lib.hid h4
  have H5 := Lib.hid h5
  have H6 := Lib.hid h6
  clear h1 h2 h3 h4 h5 h6 h7
  go_enter Try.func7, Try.ntmps7
  go_wp2_with fail
  refine HN.out.mono ?_
  rintro e w1 ⟨g, rfl, hT, hb1⟩
  have HB1 := Lib.hid hb1
  have HP := Lib.hid (put_spec _ 4 4 _ ⟨0, 1, 0, 0, 0⟩ 7 w1 hT k1_wf (by omega))
  rw [H1.out] at HP
  clear hT hb1 HN
  go_wp2_with fail
  refine HP.out.mono ?_
  rintro e w2 ⟨A2, c2, rfl, hT, hb⟩
  have HB2 := Lib.hid (bel_then HB1.out hb)
  have HT2 := Lib.hid hT
  have HG := Lib.hid (get_spec A2 4 c2 R ⟨0, 1, 0, 0, 0⟩ w2 hT k1_wf (by omega))
  rw [H3.out] at HG
  clear hT hb HP HB1
  go_wp2_with fail
  refine HG.out.mono ?_
  rintro e w3 ⟨rfl, hb⟩
  have HB3 := Lib.hid (bel_then HB2.out hb)
  have HT3 := Lib.hid (HT2.out.below hb)
  have HD := Lib.hid (del_spec A2 4 c2 R ⟨0, 1, 0, 0, 0⟩ w3 HT3.out k1_wf (by omega))
  rw [H5.out] at HD
  clear hb HG HB2 HT2
  go_wp2_with fail
  refine HD.out.mono ?_
  rintro e w4 ⟨A4, c4, rfl, hT, hb⟩
  have HB4 := Lib.hid (bel_then HB3.out hb)
  have HT4 := Lib.hid (HT3.out.below hb)
  have HS4 := Lib.hid hT
  have HL := Lib.hid (len_spec A2 4 c2 R w4 HT4.out (by omega))
  rw [H4.out] at HL
  clear hb hT HD HB3 HT3
  go_wp2_with fail
  refine HL.out.mono ?_
  rintro e w5 ⟨rfl, hb⟩
  have HB5 := Lib.hid (bel_then HB4.out hb)
  have HL2 := Lib.hid (len_spec A4 4 c4 S w5 (HS4.out.below hb) (by omega))
  rw [H6.out] at HL2
  clear hb HL HB4
  go_wp2_with fail
  refine HL2.out.mono ?_
  rintro e w6 ⟨rfl, hb⟩
  have HB6 := Lib.hid (bel_then HB5.out hb)
  clear hb
  go_wp2_with fail
  go_ret
  exact ⟨rfl, HB6.out⟩
end Go.Proofs.Ytdfbfhejigifoaa
