/- The walk of IndexFull. -/
import Derived.Test.YtdfbfhejigifoaaIdxAwake
import Derived.Test.YtdfbfhejigifoaaIdxFullP
namespace Go.Proofs.Ytdfbfhejigifoaa
open Go.RowKit
set_option linter.unusedVariables false
theorem full_size (b : Int) (h0 : 0 ≤ b) (h1 : b ≤ 255) : ∃ N : Nat, (2 : Int) * 2 ^ (b % 6).toNat = (N : Int) ∧ Idx.size N = true ∧ 2 ≤ N ∧ N ≤ 64 := by
  rcases (show b % 6 = 0 ∨ b % 6 = 1 ∨ b % 6 = 2 ∨ b % 6 = 3 ∨ b % 6 = 4 ∨ b % 6 = 5 by omega) with h | h | h | h | h | h <;> rw [h]
  · exact ⟨2, by decide +kernel, by decide, by decide, by decide⟩
  · exact ⟨4, by decide +kernel, by decide, by decide, by decide⟩
  · exact ⟨8, by decide +kernel, by decide, by decide, by decide⟩
  · exact ⟨16, by decide +kernel, by decide, by decide, by decide⟩
  · exact ⟨32, by decide +kernel, by decide, by decide, by decide⟩
  · exact ⟨64, by decide +kernel, by decide, by decide, by decide⟩
set_option maxRecDepth 8000 in
set_option maxHeartbeats 8000000 in
theorem IndexFull_walk (b f p : Int) (w : World) (hb : 0 ≤ b ∧ b ≤ 255) (hf : 0 ≤ f ∧ f ≤ 65535) (hp : 0 ≤ p ∧ p ≤ 255) :
    Calls Try.prog 6 #[.int .u8 b, .int .u16 f, .int .u8 p] w fun e w' => e = .returned (.bool true) ∧ Below w.heap.size w w' := by
  obtain ⟨N, hN, hs, hN2, hN64⟩ := full_size b hb.1 hb.2
  have HS := Lib.hid hs
  have HAW := Lib.hid (idx_awake w)
  have HPF := Lib.hid hp
  have HFF := Lib.hid hf
  obtain ⟨hb0, hb1⟩ := hb
  obtain ⟨hf0, hf1⟩ := hf
  obtain ⟨hp0, hp1⟩ := hp
  clear hs
  go_enter Try.func6, Try.ntmps6
  go_wp2_with fail
  refine HAW.out.mono ?_
  rintro e w1 ⟨rfl, hb⟩
  have HB1 := Lib.hid hb
  have HNW := Lib.hid (new_yes N w1 HS.out)
  clear hb HAW
  go_wp2_with fail
  clear hN
  refine HNW.out.mono ?_
  rintro e w2 ⟨g, rfl, hT, hb⟩
  have HB2 := Lib.hid (bel_then HB1.out hb)
  have HT2 := Lib.hid hT
  clear hT hb HNW HB1
  go_wp2_with fail
  go_loopg [8, 10] N (fun gg s8 s10 wx => ∃ (j : Nat) (A : Option Addr) (c : Nat) (T : List Idx.Cell), j ≤ N ∧ N - j ≤ gg ∧ s10 = .int .i64 j ∧ s8 = .slice A N c ∧ Aside (TabR wx A N T) ∧ Aside (Idx.FSt p f N (min j (N - 1)) T) ∧ Aside (Below w.heap.size w wx))
  case atStart => exact ⟨0, _, N, _, by omega, by omega, rfl, rfl, HT2.out, (show Aside _ from by rw [Nat.zero_min]; exact Idx.FSt.new HS.out), HB2.out⟩
  case round =>
    obtain ⟨j, A, c, T, hj, hg, rfl, rfl, BT, BF, BW⟩ := hrel
    clear HT2 HB2
    by_cases hlt : j < N
    · have hltz : (j : Int) < (N : Int) := by omega
      have hjw : (j : Int) % 4294967296 = (j : Int) := by omega
      obtain ⟨W1, hW1⟩ : ∃ W1, W1 = wr.alloc (.cells #[.int .i64 p, .int .u32 j, .int .i64 f, .int .u32 0, .int .i64 0] 25) := ⟨_, rfl⟩
      have hwr : Below wr.heap.size wr W1 := by rw [hW1]; exact bel_al2 (Below.refl _ _) _
      have HW1 := Lib.hid (bel_then BW.out hwr)
      have HT1 := Lib.hid (BT.out.below hwr)
      have hkw : (Idx.fkey p f j).wf := ⟨⟨by show (0 : Int) ≤ j; omega, by show (j : Int) ≤ 4294967295; omega⟩, by show (0 : Int) ≤ 0; decide, by show (0 : Int) ≤ 4294967295; decide⟩
      have HP := Lib.hid (put_spec A N c T (Idx.fkey p f j) j W1 HT1.out hkw (by omega))
      obtain ⟨d0, d1, d2, d3, d4⟩ := key_c5 W1 (Idx.fkey p f j) wr.heap.size (by rw [hW1]; exact BlkV.new _ _ _) W1 (Below.refl _ _)
      dsimp only [Idx.fkey] at d0 d1 d2 d3 d4
      have HW1E := Lib.hid hW1
      clear hwr hW1
      by_cases hl1 : j + 1 < N
      · have hl1z : (j : Int) < (N : Int) - 1 := by omega
        have hmin : min j (N - 1) = j := by omega
        have hmin2 : min (j + 1) (N - 1) = j + 1 := by omega
        have hF := BF.out
        rw [hmin] at hF
        obtain ⟨R, hR, hF'⟩ := hF.put HPF.out HFF.out hl1
        rw [← hmin2] at hF'
        have HF' := Lib.hid hF'
        rw [hR] at HP
        clear hF hF' hR hmin hmin2
        go_upto_region 11 with (fail)
        rw [← HW1E.out]
        go_wp2_with fail
        refine HP.out.mono ?_
        rintro e w4 ⟨A4, c4, rfl, hT, hb⟩
        have HB4 := Lib.hid (bel_then HW1.out hb)
        have HT4 := Lib.hid hT
        clear hT hb HP HW1 d0 d1 d2 d3 d4
        go_wp2_with fail
        go_roundg (N - (j + 1))
        case measure => omega
        case rel => exact ⟨j + 1, A4, c4, R, by omega, by omega, by go_num, rfl, HT4.out, HF'.out, HB4.out⟩
      · have hl1z : ¬ (j : Int) < (N : Int) - 1 := by omega
        have hmin : min j (N - 1) = N - 1 := by omega
        have hmin2 : min (j + 1) (N - 1) = N - 1 := by omega
        have hF := BF.out
        rw [hmin] at hF
        have hR := hF.full HPF.out HFF.out (by omega) j
        rw [show N - 1 = j by omega] at hR
        rw [← hmin2] at hF
        have HF' := Lib.hid hF
        rw [hR] at HP
        clear hF hR hmin hmin2
        go_upto_region 11 with (fail)
        rw [← HW1E.out]
        go_wp2_with fail
        refine HP.out.mono ?_
        rintro e w4 ⟨A4, c4, rfl, hT, hb⟩
        have HB4 := Lib.hid (bel_then HW1.out hb)
        have HT4 := Lib.hid hT
        clear hT hb HP HW1 d0 d1 d2 d3 d4
        go_wp2_with fail
        go_roundg (N - (j + 1))
        case measure => omega
        case rel => exact ⟨j + 1, A4, c4, T, by omega, by omega, by go_num, rfl, HT4.out, HF'.out, HB4.out⟩
    · have hltz : ¬ (j : Int) < (N : Int) := by omega
      have hF := BF.out
      rw [show min j (N - 1) = N - 1 by omega] at hF
      have HF := Lib.hid hF
      have HT := Lib.hid BT.out
      have HB := Lib.hid BW.out
      clear hF BT BF BW
      generalize wr = wo at *
      go_wp2_with fail
      go_loopg [14] N (fun gg s14 wx => ∃ i : Nat, i ≤ N ∧ N - i ≤ gg ∧ s14 = .int .i64 i ∧ Aside (Below wo.heap.size wo wx))
      case atStart => exact ⟨0, by omega, by omega, rfl, Below.refl _ _⟩
      case round =>
        obtain ⟨i, hi, hg2, rfl, BW⟩ := hrel
        have HTI := Lib.hid (HT.out.below BW.out)
        have HBI := Lib.hid (bel_then HB.out BW.out)
        by_cases hlt2 : i < N
        · have hltz2 : (i : Int) < (N : Int) := by omega
          have hjw : (i : Int) % 4294967296 = (i : Int) := by omega
          have hkw : (Idx.fkey p f i).wf := ⟨⟨by show (0 : Int) ≤ i; omega, by show (i : Int) ≤ 4294967295; omega⟩, by show (0 : Int) ≤ 0; decide, by show (0 : Int) ≤ 4294967295; decide⟩
          have HG := Lib.hid (get_spec A N c T (Idx.fkey p f i) wr HTI.out hkw (by omega))
          by_cases hl1 : i < N - 1
          · have hl1z : (i : Int) < (N : Int) - 1 := by omega
            rw [HF.out.get_yes hl1] at HG
            go_wp2_with fail
            refine HG.out.mono ?_
            rintro e w4 ⟨rfl, hb⟩
            have HB4 := Lib.hid (bel_then BW.out hb)
            clear hb HG
            go_wp2_with fail
            go_roundg (N - (i + 1))
            case measure => omega
            case rel => exact ⟨i + 1, by omega, by omega, by go_num, HB4.out⟩
          · have hl1z : ¬ (i : Int) < (N : Int) - 1 := by omega
            rw [HF.out.get_no (by omega)] at HG
            go_wp2_with fail
            refine HG.out.mono ?_
            rintro e w4 ⟨rfl, hb⟩
            have HB4 := Lib.hid (bel_then BW.out hb)
            clear hb HG
            go_wp2_with fail
            go_roundg (N - (i + 1))
            case measure => omega
            case rel => exact ⟨i + 1, by omega, by omega, by go_num, HB4.out⟩
        · have hltz2 : ¬ (i : Int) < (N : Int) := by omega
          have HL := Lib.hid (len_spec A N c T wr HTI.out (by omega))
          rw [HF.out.many, show ((N - 1 : Nat) : Int) = (N : Int) - 1 by omega] at HL
          go_wp2_with fail
          refine HL.out.mono ?_
          rintro e w4 ⟨rfl, hb⟩
          have HB4 := Lib.hid (bel_then HBI.out hb)
          have HR := Lib.hid (iright_spec A N c T w4 (HTI.out.below hb) (by omega))
          rw [Idx.right_of HF.out.good] at HR
          clear hb HL
          go_wp2_with fail
          refine HR.out.mono ?_
          rintro e w5 ⟨rfl, hb⟩
          have HB5 := Lib.hid (bel_then HB4.out hb)
          clear hb
          go_wp2_with fail
          go_ret
          exact ⟨rfl, HB5.out⟩
end Go.Proofs.Ytdfbfhejigifoaa
