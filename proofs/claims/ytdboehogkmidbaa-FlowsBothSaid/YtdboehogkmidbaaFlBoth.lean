/- The walk of FlowsBoth (printed by gen_flboth.py). -/
import Derived.Test.YtdboehogkmidbaaFlAwake
import Derived.Deep.RegionHeld3
import Derived.Deep.DeepCutAuto
import Derived.Deep.CutBlock
namespace Go.Proofs.Ytdboehogkmidbaa
open Go.RowKit
set_option linter.unusedVariables false
set_option linter.unusedSimpArgs false
attribute [local go_sem ↓] eq_key9 eq_key
theorem eq_flow (f : Fl.F) (w : World) : Sem.run Try.prog (Op.equalIn 10000 31 (.agg #[.int .i64 f.th.pr, .int .u32 f.th.sr, .int .i64 f.th.sp, .int .u32 f.th.ds, .int .i64 f.th.dp, .int .i64 f.bk.pr, .int .u32 f.bk.sr, .int .i64 f.bk.sp, .int .u32 f.bk.ds, .int .i64 f.bk.dp, .int .i64 f.un, .int .i64 f.no]) (.agg #[.int .i64 f.th.pr, .int .u32 f.th.sr, .int .i64 f.th.sp, .int .u32 f.th.ds, .int .i64 f.th.dp, .int .i64 f.bk.pr, .int .u32 f.bk.sr, .int .i64 f.bk.sp, .int .u32 f.bk.ds, .int .i64 f.bk.dp, .int .i64 f.un, .int .i64 f.no])) w = .ok true w := by
  go_simp
/-- acts that came in -/
structure FActs (w : World) (A : Option Addr) (n : Nat) : Prop where
  at_ : ∀ j, j < n → ∃ b off kd f num tm no, A = some ⟨b, off, none⟩ ∧ b < w.heap.size ∧ w.rangeAt b (off + j * 16) [.int .i64 kd, .int .i64 f.th.pr, .int .u32 f.th.sr, .int .i64 f.th.sp, .int .u32 f.th.ds, .int .i64 f.th.dp, .int .i64 f.bk.pr, .int .u32 f.bk.sr, .int .i64 f.bk.sp, .int .u32 f.bk.ds, .int .i64 f.bk.dp, .int .i64 f.un, .int .i64 f.no, .int .i64 num, .int .i64 tm, .int .i64 no] ∧ Idx.Key.wf (Fl.F.th f) ∧ Idx.Key.wf (Fl.F.bk f)
theorem FActs.below {w w' : World} {A : Option Addr} {n : Nat} (h : FActs w A n) (hb : Below w.heap.size w w') : FActs w' A n := ⟨fun j hj => by
  obtain ⟨b, off, kd, f, num, tm, no, e, hs, h0, h1⟩ := h.at_ j hj
  exact ⟨b, off, kd, f, num, tm, no, e, Nat.lt_of_lt_of_le hs hb.size, fun i v hv => (hb.cell (p := ⟨b, _, none⟩) hs).trans (h0 i v hv), h1⟩⟩
theorem act_size {l : List Value} (h : l.length = 16) : (Try.prog.info? 40).map (·.size) = some l.length := by rw [h]; kernel_rfl
theorem at_mid (a b c : List Value) : ∀ (j : Nat) (v : Value), b[j]? = some v → (a ++ b ++ c)[a.length + j]? = some v := fun j v h => by
  rw [List.append_assoc, List.getElem?_append_right (by omega), Nat.add_sub_cancel_left, List.getElem?_append_left (List.getElem?_eq_some_iff.1 h).1]
  exact h
namespace Fl
theorem slot_cons (o : Option F) (t : Sl) (i : Nat) : slot (o :: t) (i + 1) = slot t i := by simp [slot]
theorem used_cons (o : Option F) (t : Sl) : used (o :: t) = match o with | some f => f :: used t | none => used t := by
  cases o <;> simp [used]
/-- the flows that are there stand at numbers that rise -/
theorem used_idx (sl : Sl) : ∃ ix : Nat → Nat, (∀ k (h : k < (used sl).length), slot sl (ix k) = some ((used sl)[k])) ∧ ∀ j k, j < k → k < (used sl).length → ix j < ix k := by
  induction sl with
  | nil => exact ⟨id, fun k h => absurd h (by simp [used]), fun j k _ h => absurd h (by simp [used])⟩
  | cons o t ih =>
    obtain ⟨ix, h1, h2⟩ := ih
    cases o with
    | none =>
      refine ⟨fun k => ix k + 1, fun k h => ?_, fun j k hj hk => ?_⟩
      · show slot (none :: t) (ix k + 1) = _
        rw [slot_cons]
        exact h1 k h
      · have := h2 j k hj hk
        simp only
        omega
    | some f =>
      refine ⟨fun k => match k with | 0 => 0 | k + 1 => ix k + 1, fun k h => ?_, fun j k hj hk => ?_⟩
      · match k, h with
        | 0, _ => rfl
        | k + 1, h =>
          show slot (some f :: t) (ix k + 1) = _
          rw [slot_cons]
          exact h1 k (by simpa [used_cons] using h)
      · match j, k, hj, hk with
        | 0, k + 1, _, _ => exact Nat.succ_pos _
        | j + 1, k + 1, hj, hk =>
          have := h2 j k (by omega) (by simpa [used_cons] using hk)
          simp only
          omega
end Fl
set_option maxRecDepth 20000 in
set_option maxHeartbeats 16000000 in
theorem FlowsBoth_walk (room : Int) (A : Option Addr) (m c : Nat) (w : World) (hA : FActs w A m) (hm : m ≤ 9223372036854775807) :
    Calls Try.prog 4 #[.int .i64 room, .slice A m c] w fun e w' => e = .returned (.bool true) ∧ Below w.heap.size w w' := by
  have HA := Lib.hid hA
  have HW := Lib.hid (fawake_spec w)
  clear hA
  by_cases hr20 : 20 < room
  · go_enter Try.func4, Try.ntmps4
    go_wp2_with fail
    refine HW.out.mono ?_
    rintro ee w1 ⟨rfl, hb1⟩
    have Hb1 := Lib.hid hb1
    clear hb1
    go_wp2_with fail
    go_ret
    exact ⟨rfl, Hb1.out⟩
  · by_cases hr1 : room < 1
    · go_enter Try.func4, Try.ntmps4
      go_wp2_with fail
      refine HW.out.mono ?_
      rintro ee w1 ⟨rfl, hb1⟩
      have Hb1 := Lib.hid hb1
      have HN := Lib.hid (fnew_bad room w1 (Or.inl hr1))
      clear hb1 HW
      go_wp2_with fail
      refine HN.out.mono ?_
      rintro ee w2 ⟨rfl, rfl⟩
      clear HN
      go_wp2_with fail
      go_loopg [7, 8] 1 (fun gg s7 s8 wx => 0 < gg ∧ s8 = .int .i64 0 ∧ s7 = .int .i64 0 ∧ wx = w1)
      case atStart => exact ⟨by omega, rfl, rfl, rfl⟩
      case round =>
        obtain ⟨hg, rfl, rfl, rfl⟩ := hrel
        by_cases h0m : (0 : Int) < (m : Int)
        all_goals
          go_wp2_with fail
          go_ret
          exact ⟨rfl, Hb1.out⟩
    · obtain ⟨n, rfl⟩ := Int.eq_ofNat_of_zero_le (show 0 ≤ room by omega)
      have hn1 : 1 ≤ n := by omega
      have hn2 : n ≤ 20 := by omega
      clear hr20 hr1
      have hr20 : ¬ 20 < (n : Int) := by omega
      go_enter Try.func4, Try.ntmps4
      go_wp2_with fail
      refine HW.out.mono ?_
      rintro ee w1 ⟨rfl, hb1⟩
      have Hb1 := Lib.hid hb1
      have HA1 := Lib.hid (HA.out.below hb1)
      have HN := Lib.hid (fnew_sf n w1 hn1 (by omega))
      clear hb1 HW HA
      go_wp2_with fail
      refine HN.out.mono ?_
      rintro ee w2 ⟨gs, rfl, hF⟩
      have HF := Lib.hid hF
      clear HN hF
      go_wp2_with fail
      go_loopg [7, 8] (m + 1) (fun gg s7 s8 wx => ∃ (i : Nat) (now : Int) (sl : Fl.Sl), i ≤ m ∧ i ≤ 120 ∧ m - i < gg ∧ s7 = .int .i64 now ∧ s8 = .int .i64 i ∧ Aside (SF w1 gs sl now wx) ∧ Aside (sl.length = n))
      case atStart => exact ⟨0, 0, List.replicate n none, by omega, by omega, by omega, rfl, rfl, HF.out, List.length_replicate⟩
      case round =>
        as_aux_lemma =>
          obtain ⟨i, now, sl, hi, hi2, hg, rfl, rfl, HS, HL⟩ := hrel
          obtain ⟨G1, rfl⟩ : ∃ G1, gk = G1 + 1 := ⟨gk - 1, by omega⟩
          clear HF
          by_cases him : i < m
          · have himz : (i : Int) < (m : Int) := by omega
            by_cases hi120 : i < 120
            · have hi120z : (i : Int) < 120 := by omega
              obtain ⟨b, off, kd, f, num, tm, no, rfl, hbs, hrg, hk1, hk2⟩ := (HA1.out.below HS.out.bel).at_ i him
              have HR := Lib.hid hrg
              have HK := Lib.hid (And.intro hk1 hk2)
              clear hrg hk1 hk2
              go_upto_region 11 with (first | (refine wpList_load_mid rfl 40 _ (by with_reducible rfl) b (off + i * 16) (by rfl) [.int .i64 kd, .int .i64 f.th.pr, .int .u32 f.th.sr, .int .i64 f.th.sp, .int .u32 f.th.ds, .int .i64 f.th.dp, .int .i64 f.bk.pr, .int .u32 f.bk.sr, .int .i64 f.bk.sp, .int .u32 f.bk.ds, .int .i64 f.bk.dp, .int .i64 f.un, .int .i64 f.no, .int .i64 num, .int .i64 tm, .int .i64 no] _ HR.out Try.underlying40 rfl (act_size rfl) ?_) | (refine wpList_stB 40 _ _ (by with_reducible rfl) rfl (by rfl) [.int .i64 kd, .int .i64 f.th.pr, .int .u32 f.th.sr, .int .i64 f.th.sp, .int .u32 f.th.ds, .int .i64 f.th.dp, .int .i64 f.bk.pr, .int .u32 f.bk.sr, .int .i64 f.bk.sp, .int .u32 f.bk.ds, .int .i64 f.bk.dp, .int .i64 f.un, .int .i64 f.no, .int .i64 num, .int .i64 tm, .int .i64 no] (by rfl) (by exact BlkV.new _ _ _) (by rfl) (act_size (by rfl)) (by rfl) ?_; intro w3 N3 O3) | fail)
              have hb3 : Below wr.heap.size wr w3 := O3.bel (Nat.le_refl _) (bel_a (Below.refl _ _) _)
              have HS3 := Lib.hid (HS.out.below hb3)
              have k0 : w3.cell? ⟨wr.heap.size, 0, none⟩ = some (.int .i64 kd) := N3.cell rfl
              have k13 : w3.cell? ⟨wr.heap.size, 13, none⟩ = some (.int .i64 num) := N3.cell rfl
              have k14 : w3.cell? ⟨wr.heap.size, 14, none⟩ = some (.int .i64 tm) := N3.cell rfl
              have k15 : w3.cell? ⟨wr.heap.size, 15, none⟩ = some (.int .i64 no) := N3.cell rfl
              have HFl : Hid (w3.rangeAt wr.heap.size 1 [.int .i64 f.th.pr, .int .u32 f.th.sr, .int .i64 f.th.sp, .int .u32 f.th.ds, .int .i64 f.th.dp, .int .i64 f.bk.pr, .int .u32 f.bk.sr, .int .i64 f.bk.sp, .int .u32 f.bk.ds, .int .i64 f.bk.dp, .int .i64 f.un, .int .i64 f.no]) := Lib.hid (N3.at (o := 1) (cs := [.int .i64 f.th.pr, .int .u32 f.th.sr, .int .i64 f.th.sp, .int .u32 f.th.ds, .int .i64 f.th.dp, .int .i64 f.bk.pr, .int .u32 f.bk.sr, .int .i64 f.bk.sp, .int .u32 f.bk.ds, .int .i64 f.bk.dp, .int .i64 f.un, .int .i64 f.no]) (at_mid [.int .i64 kd] [.int .i64 f.th.pr, .int .u32 f.th.sr, .int .i64 f.th.sp, .int .u32 f.th.ds, .int .i64 f.th.dp, .int .i64 f.bk.pr, .int .u32 f.bk.sr, .int .i64 f.bk.sp, .int .u32 f.bk.ds, .int .i64 f.bk.dp, .int .i64 f.un, .int .i64 f.no] [.int .i64 num, .int .i64 tm, .int .i64 no]))
              have HN3 := Lib.hid N3
              clear O3 hb3 N3 HS
              go_upto_block 2 with fail
              go_cut [7] (fun s7 wx => ∃ (now' : Int) (sl' : Fl.Sl), s7 = .int .i64 now' ∧ Hid (SF w1 gs sl' now' wx) ∧ Hid (sl'.length = n))
              case first =>
                by_cases hk0 : kd = 0
                · skip
                  as_aux_lemma =>
                    subst hk0
                    have HAd := Lib.hid (HS3.out.add_any f HK.out.1 HK.out.2)
                    clear HS3
                    go_wp2_with (first | (refine wpList_load_mid rfl 31 _ (by with_reducible rfl) wr.heap.size 1 (by rfl) [.int .i64 f.th.pr, .int .u32 f.th.sr, .int .i64 f.th.sp, .int .u32 f.th.ds, .int .i64 f.th.dp, .int .i64 f.bk.pr, .int .u32 f.bk.sr, .int .i64 f.bk.sp, .int .u32 f.bk.ds, .int .i64 f.bk.dp, .int .i64 f.un, .int .i64 f.no] _ HFl.out Try.underlying31 rfl (flow_size rfl) ?_) | fail)
                    refine HAd.out.mono ?_
                    rintro ee w4 ⟨a, bb, sl', rfl, hF4, hl4, _⟩
                    have HS4 := Lib.hid hF4
                    have HL4 : Hid (sl'.length = n) := Lib.hid (hl4.trans HL.out)
                    clear hF4 hl4 HAd HN3 HFl k0 k13 k14 k15 HR HK
                    go_wp2_with fail
                    go_meet
                    exact ⟨now, sl', rfl, HS4, HL4⟩
                · have hk0B : (kd == 0) = false := by simp [hk0]
                  by_cases hk1 : kd = 1
                  · skip
                    as_aux_lemma =>
                      subst hk1
                      clear hk0
                      have HAd := Lib.hid (HS3.out.set_any num tm no)
                      clear HS3
                      go_wp2_with fail
                      refine HAd.out.mono ?_
                      rintro ee w4 ⟨a, sl', rfl, hF4, hl4, _⟩
                      have HS4 := Lib.hid hF4
                      have HL4 : Hid (sl'.length = n) := Lib.hid (hl4.trans HL.out)
                      clear hF4 hl4 HAd HN3 HFl k0 k13 k14 k15 HR HK hk0B
                      go_wp2_with fail
                      go_meet
                      exact ⟨now, sl', rfl, HS4, HL4⟩
                  · have hk1B : (kd == 1) = false := by simp [hk1]
                    by_cases hk2 : kd = 2
                    · skip
                      as_aux_lemma =>
                        subst hk2
                        clear hk0 hk1
                        have HAd := Lib.hid (HS3.out.drop_any num)
                        clear HS3
                        go_wp2_with fail
                        refine HAd.out.mono ?_
                        rintro ee w4 ⟨ff, a, sl', rfl, hF4, hl4, _⟩
                        have HS4 := Lib.hid hF4
                        have HL4 : Hid (sl'.length = n) := Lib.hid (hl4.trans HL.out)
                        clear hF4 hl4 HAd HN3 HFl k0 k13 k14 k15 HR HK hk0B hk1B
                        go_wp2_with fail
                        go_meet
                        exact ⟨now, sl', rfl, HS4, HL4⟩
                    · have hk2B : (kd == 2) = false := by simp [hk2]
                      clear hk0 hk1 hk2
                      by_cases hbad : tm < now ∨ 1099511627776 < tm
                      · skip
                        as_aux_lemma =>
                          have HAd := Lib.hid (HS3.out.tick_bad hbad)
                          have HSk := HS3
                          clear HS3 hbad
                          go_wp2_with fail
                          refine HAd.out.mono ?_
                          rintro ee w4 ⟨rfl, rfl⟩
                          clear HAd HN3 HFl k0 k13 k15 HR HK
                          go_wp2_with fail
                          go_meet
                          exact ⟨now, sl, rfl, HSk, Lib.hid HL.out⟩
                      · skip
                        as_aux_lemma =>
                          have ht1 : now ≤ tm := by omega
                          have ht2 : tm ≤ 1099511627776 := by omega
                          have HAd := Lib.hid (HS3.out.tick ht1 ht2)
                          clear HS3 hbad
                          go_wp2_with fail
                          refine HAd.out.mono ?_
                          rintro ee w4 ⟨D, O, B4, d4, rfl, _, _, _, _, _, hF4, hfr4⟩
                          have HS4 := Lib.hid hF4
                          have HL4 : Hid ((Fl.clear sl D).length = n) := Lib.hid (by rw [Fl.clear_len]; exact HL.out)
                          have N4 := hfr4.blk _ _ _ HN3.out (by decide) (by decide) (by decide) (by decide)
                          have k14' : w4.cell? ⟨wr.heap.size, 14, none⟩ = some (.int .i64 tm) := N4.cell rfl
                          clear hF4 hfr4 N4 HAd HN3 HFl k0 k13 k14 k15 HR HK
                          go_wp2_with fail
                          go_meet
                          exact ⟨tm, _, rfl, HS4, HL4⟩
              case rest =>
                as_aux_lemma =>
                  obtain ⟨now', sl', rfl, HS4, HL4⟩ := hcut
                  clear HN3 HFl k0 k13 k14 k15 HR HK HL HS3
                  have HAl := Lib.hid HS4.out.all
                  have HLen := Lib.hid HS4.out.len
                  have hcl := Fl.count_le sl'
                  have hul := Fl.used_len sl'
                  obtain ⟨M, hM⟩ : ∃ M, M = (Fl.used sl').length := ⟨_, rfl⟩
                  have hMn : M ≤ n := by have := HL4.out; omega
                  have hMc : Fl.count sl' = M := by omega
                  rw [hMc] at HLen
                  have HM := Lib.hid hM
                  have hMz : ¬ (n : Int) < (M : Int) := by omega
                  have hMd : decide (n < M) = false := decide_eq_false (by omega)
                  clear hcl hul hM hMc
                  go_wp2_with fail
                  refine HAl.out.mono ?_
                  rintro ee w5 ⟨B5, d5, rfl, hR5, hb5⟩
                  rw [← HM.out] at hR5 ⊢
                  have HR5 := Lib.hid hR5
                  have HS5 := Lib.hid (HS4.out.below hb5)
                  have HLen5 : Hid (Calls Try.prog 9 #[.pointer (some ⟨gs, 0, none⟩)] w5 fun e w' => e = .returned (.int .i64 M) ∧ w5 = w') := Lib.hid (by
                    have h := HS5.out.len
                    have h2 := Fl.used_len sl'
                    have h3 := HM.out
                    rw [show Fl.count sl' = M by omega] at h
                    exact h)
                  clear hR5 hb5 HAl HS4 HLen
                  go_wp2_with fail
                  refine HLen5.out.mono ?_
                  rintro ee w6 ⟨rfl, rfl⟩
                  clear HLen5
                  go_wp2_with fail
                  obtain ⟨tb, l, hI⟩ := HS5.out.inv
                  obtain ⟨ix, hix1, hix2⟩ := Fl.used_idx sl'
                  have HI := Lib.hid hI
                  have HX1 := Lib.hid hix1
                  have HX2 := Lib.hid hix2
                  clear hI hix1 hix2
                  go_loopg [13] (M + 1) (fun gg s13 wx => ∃ k : Nat, k ≤ M ∧ M - k < gg ∧ s13 = .int .i64 k ∧ Aside (Below w5.heap.size w5 wx))
                  case atStart => exact ⟨0, by omega, by omega, rfl, Below.refl _ _⟩
                  case round =>
                    as_aux_lemma =>
                      obtain ⟨k, hk, hg2, rfl, HB⟩ := hrel
                      obtain ⟨G2, rfl⟩ : ∃ G2, gk = G2 + 1 := ⟨gk - 1, by omega⟩
                      by_cases hkM : k < M
                      · have hkz : (k : Int) < (M : Int) := by omega
                        obtain ⟨b, off, rfl, hbs, hc⟩ := (HR5.out.below HB.out).twelve hkM HM.out.symm
                        obtain ⟨f, hf⟩ : ∃ f, f = (Fl.used sl')[k]'(by rw [← HM.out]; exact hkM) := ⟨_, rfl⟩
                        rw [← hf] at hc
                        have hsf := HX1.out k (by rw [← HM.out]; exact hkM)
                        rw [← hf] at hsf
                        obtain ⟨ii, hii⟩ : ∃ ii, ii = ix k := ⟨_, rfl⟩
                        rw [← hii] at hsf
                        obtain ⟨hw1, hw2⟩ := HS5.out.kwf hsf
                        obtain ⟨r1, r2, hun, hun2⟩ := HI.out.ok ii f hsf
                        have HRr := Lib.hid r1
                        have HSf := Lib.hid hsf
                        have HFk := Lib.hid hf
                        have HIi := Lib.hid hii
                        have HKC : Hid (∀ w' : World, Below wr.heap.size wr w' → w'.cell? ⟨b, off + k * 12, none⟩ = some (.int .i64 f.th.pr) ∧ w'.cell? ⟨b, off + k * 12 + 1, none⟩ = some (.int .u32 f.th.sr) ∧ w'.cell? ⟨b, off + k * 12 + 2, none⟩ = some (.int .i64 f.th.sp) ∧ w'.cell? ⟨b, off + k * 12 + 3, none⟩ = some (.int .u32 f.th.ds) ∧ w'.cell? ⟨b, off + k * 12 + 4, none⟩ = some (.int .i64 f.th.dp) ∧ w'.cell? ⟨b, off + k * 12 + 5, none⟩ = some (.int .i64 f.bk.pr) ∧ w'.cell? ⟨b, off + k * 12 + 6, none⟩ = some (.int .u32 f.bk.sr) ∧ w'.cell? ⟨b, off + k * 12 + 7, none⟩ = some (.int .i64 f.bk.sp) ∧ w'.cell? ⟨b, off + k * 12 + 8, none⟩ = some (.int .u32 f.bk.ds) ∧ w'.cell? ⟨b, off + k * 12 + 9, none⟩ = some (.int .i64 f.bk.dp) ∧ w'.cell? ⟨b, off + k * 12 + 10, none⟩ = some (.int .i64 f.un) ∧ w'.cell? ⟨b, off + k * 12 + 11, none⟩ = some (.int .i64 f.no)) := Lib.hid fun w' hb => by
                          have h := fun i v hv => (hb.cell (p := ⟨b, off + k * 12 + i, none⟩) hbs).trans (hc i v hv)
                          exact ⟨h 0 _ rfl, h 1 _ rfl, h 2 _ rfl, h 3 _ rfl, h 4 _ rfl, h 5 _ rfl, h 6 _ rfl, h 7 _ rfl, h 8 _ rfl, h 9 _ rfl, h 10 _ rfl, h 11 _ rfl⟩
                        have HFd1 := (HS5.out.below HB.out).find hw1 (n := 2 * ii) ⟨ii, f, hsf, Or.inl ⟨rfl, by omega⟩⟩
                        rw [show 2 * ii / 2 = ii by omega, show (((2 * ii : Nat) : Int) % 2 == 1) = false by simp] at HFd1
                        have HFd1 := Lib.hid HFd1
                        have hiid : ii < 256 := by have h1 := Fl.slot_lt hsf; have := HI.out.len; omega
                        obtain ⟨f0, f1, f2, f3, f4, f5, f6, f7, f8, f9, f10, f11⟩ := HKC.out wr (Below.refl _ _)
                        clear hc hf hsf r1 r2 hii
                        go_wp2_with fail
                        refine HFd1.out.mono ?_
                        rintro ee w7 ⟨rfl, hb7⟩
                        have HFd2 := ((HS5.out.below HB.out).below hb7).find hw2 (n := 2 * ii + 1) ⟨ii, f, HSf.out, Or.inr ⟨rfl, by omega⟩⟩
                        rw [show (2 * ii + 1) / 2 = ii by omega, show (((2 * ii + 1 : Nat) : Int) % 2 == 1) = true by (first | (simp; done) | (simp; omega))] at HFd2
                        have HFd2 := Lib.hid HFd2
                        have HB7 := Lib.hid hb7
                        clear hb7 HFd1 f0 f1 f2 f3 f4 f5 f6 f7 f8 f9 f10 f11
                        obtain ⟨f0, f1, f2, f3, f4, f5, f6, f7, f8, f9, f10, f11⟩ := HKC.out w7 HB7.out
                        go_wp2_with fail
                        refine HFd2.out.mono ?_
                        rintro ee w8 ⟨rfl, hb8⟩
                        have HB8 := Lib.hid (bel_then HB7.out hb8)
                        have HGt := Lib.hid (((HS5.out.below HB.out).below HB8.out).get HSf.out)
                        clear hb8 HFd2 HB7 f0 f1 f2 f3 f4 f5 f6 f7 f8 f9 f10 f11 hw2
                        go_wp2_with fail
                        refine HGt.out.mono ?_
                        rintro ee w9 ⟨rfl, hb9⟩
                        have HB9 := Lib.hid (bel_then HB8.out hb9)
                        clear hb9 HGt HB8
                        obtain ⟨g20, hg20⟩ : ∃ g20, g20 = w9.heap.size := ⟨_, rfl⟩
                        obtain ⟨Y, hY⟩ : ∃ Y, Y = w9.alloc (.cells #[.int .i64 f.th.pr, .int .u32 f.th.sr, .int .i64 f.th.sp, .int .u32 f.th.ds, .int .i64 f.th.dp, .int .i64 f.bk.pr, .int .u32 f.bk.sr, .int .i64 f.bk.sp, .int .u32 f.bk.ds, .int .i64 f.bk.dp, .int .i64 f.un, .int .i64 f.no] 31) := ⟨_, rfl⟩
                        have hbY : Below w9.heap.size w9 Y := by rw [hY]; exact bel_a (Below.refl _ _) _
                        have hNY : BlkV Y g20 31 [.int .i64 f.th.pr, .int .u32 f.th.sr, .int .i64 f.th.sp, .int .u32 f.th.ds, .int .i64 f.th.dp, .int .i64 f.bk.pr, .int .u32 f.bk.sr, .int .i64 f.bk.sp, .int .u32 f.bk.ds, .int .i64 f.bk.dp, .int .i64 f.un, .int .i64 f.no] := by rw [hY, hg20]; exact BlkV.new _ _ _
                        have HBY := Lib.hid (bel_then HB9.out hbY)
                        have KS : Hid (∀ w' : World, Below Y.heap.size Y w' → (w'.cell? ⟨b, off + k * 12, none⟩ = some (.int .i64 f.th.pr) ∧ w'.cell? ⟨b, off + k * 12 + 1, none⟩ = some (.int .u32 f.th.sr) ∧ w'.cell? ⟨b, off + k * 12 + 2, none⟩ = some (.int .i64 f.th.sp) ∧ w'.cell? ⟨b, off + k * 12 + 3, none⟩ = some (.int .u32 f.th.ds) ∧ w'.cell? ⟨b, off + k * 12 + 4, none⟩ = some (.int .i64 f.th.dp) ∧ w'.cell? ⟨b, off + k * 12 + 5, none⟩ = some (.int .i64 f.bk.pr) ∧ w'.cell? ⟨b, off + k * 12 + 6, none⟩ = some (.int .u32 f.bk.sr) ∧ w'.cell? ⟨b, off + k * 12 + 7, none⟩ = some (.int .i64 f.bk.sp) ∧ w'.cell? ⟨b, off + k * 12 + 8, none⟩ = some (.int .u32 f.bk.ds) ∧ w'.cell? ⟨b, off + k * 12 + 9, none⟩ = some (.int .i64 f.bk.dp) ∧ w'.cell? ⟨b, off + k * 12 + 10, none⟩ = some (.int .i64 f.un) ∧ w'.cell? ⟨b, off + k * 12 + 11, none⟩ = some (.int .i64 f.no)) ∧ w'.cell? ⟨g20, 0, none⟩ = some (.int .i64 f.th.pr) ∧ w'.cell? ⟨g20, 1, none⟩ = some (.int .u32 f.th.sr) ∧ w'.cell? ⟨g20, 2, none⟩ = some (.int .i64 f.th.sp) ∧ w'.cell? ⟨g20, 3, none⟩ = some (.int .u32 f.th.ds) ∧ w'.cell? ⟨g20, 4, none⟩ = some (.int .i64 f.th.dp) ∧ w'.cell? ⟨g20, 5, none⟩ = some (.int .i64 f.bk.pr) ∧ w'.cell? ⟨g20, 6, none⟩ = some (.int .u32 f.bk.sr) ∧ w'.cell? ⟨g20, 7, none⟩ = some (.int .i64 f.bk.sp) ∧ w'.cell? ⟨g20, 8, none⟩ = some (.int .u32 f.bk.ds) ∧ w'.cell? ⟨g20, 9, none⟩ = some (.int .i64 f.bk.dp) ∧ w'.cell? ⟨g20, 10, none⟩ = some (.int .i64 f.un) ∧ w'.cell? ⟨g20, 11, none⟩ = some (.int .i64 f.no)) := Lib.hid fun w' hb => ⟨HKC.out w' (bel_then HBY.out hb), (hNY.below hb).flow⟩
                        have HT := Lib.hid (tright_spec f.th Y.drew)
                        rw [HRr.out] at HT
                        have HEQ := Lib.hid (eq_flow f)
                        have hunB : decide (f.un ≤ now') = false := decide_eq_false (by omega)
                        have HG20 := Lib.hid hg20
                        clear hbY hNY
                        go_upto_region 30 with (fail)
                        rw [← hY, ← hg20]
                        clear hY hg20
                        have hEQ := HEQ.out
                        refine wp_region_held_drew (S := fun w' => (w'.cell? ⟨b, off + k * 12, none⟩ = some (.int .i64 f.th.pr) ∧ w'.cell? ⟨b, off + k * 12 + 1, none⟩ = some (.int .u32 f.th.sr) ∧ w'.cell? ⟨b, off + k * 12 + 2, none⟩ = some (.int .i64 f.th.sp) ∧ w'.cell? ⟨b, off + k * 12 + 3, none⟩ = some (.int .u32 f.th.ds) ∧ w'.cell? ⟨b, off + k * 12 + 4, none⟩ = some (.int .i64 f.th.dp) ∧ w'.cell? ⟨b, off + k * 12 + 5, none⟩ = some (.int .i64 f.bk.pr) ∧ w'.cell? ⟨b, off + k * 12 + 6, none⟩ = some (.int .u32 f.bk.sr) ∧ w'.cell? ⟨b, off + k * 12 + 7, none⟩ = some (.int .i64 f.bk.sp) ∧ w'.cell? ⟨b, off + k * 12 + 8, none⟩ = some (.int .u32 f.bk.ds) ∧ w'.cell? ⟨b, off + k * 12 + 9, none⟩ = some (.int .i64 f.bk.dp) ∧ w'.cell? ⟨b, off + k * 12 + 10, none⟩ = some (.int .i64 f.un) ∧ w'.cell? ⟨b, off + k * 12 + 11, none⟩ = some (.int .i64 f.no)) ∧ w'.cell? ⟨g20, 0, none⟩ = some (.int .i64 f.th.pr) ∧ w'.cell? ⟨g20, 1, none⟩ = some (.int .u32 f.th.sr) ∧ w'.cell? ⟨g20, 2, none⟩ = some (.int .i64 f.th.sp) ∧ w'.cell? ⟨g20, 3, none⟩ = some (.int .u32 f.th.ds) ∧ w'.cell? ⟨g20, 4, none⟩ = some (.int .i64 f.th.dp) ∧ w'.cell? ⟨g20, 5, none⟩ = some (.int .i64 f.bk.pr) ∧ w'.cell? ⟨g20, 6, none⟩ = some (.int .u32 f.bk.sr) ∧ w'.cell? ⟨g20, 7, none⟩ = some (.int .i64 f.bk.sp) ∧ w'.cell? ⟨g20, 8, none⟩ = some (.int .u32 f.bk.ds) ∧ w'.cell? ⟨g20, 9, none⟩ = some (.int .i64 f.bk.dp) ∧ w'.cell? ⟨g20, 10, none⟩ = some (.int .i64 f.un) ∧ w'.cell? ⟨g20, 11, none⟩ = some (.int .i64 f.no)) (by kernel_rfl) (KS.out _ (bel_d (Below.refl _ Y))) (fun hHeld => ?_)
                        refine wpAnyH_takeD (i := 0) (some 132) (v := ?_) rfl rfl (by kernel_rfl) (by kernel_rfl) (by kernel_rfl) (fun _ _ _ h => h) (Or.inl ⟨by rfl, ?_⟩) (by assumption) ?_
                        rotate_left
                        · (intro w hSw; (try dsimp only at hSw); go_simp; try with_reducible rfl)
                        try simp only [Act.put, List.setIfInBounds_toArray, List.set_cons_zero, List.set_cons_succ]
                        refine wpAnyH_takeD (i := 1) (some 133) (v := ?_) rfl rfl (by kernel_rfl) (by kernel_rfl) (by kernel_rfl) (fun _ _ _ h => h) (Or.inl ⟨by rfl, ?_⟩) (by assumption) ?_
                        rotate_left
                        · (intro w hSw; (try dsimp only at hSw); go_simp; try with_reducible rfl)
                        try simp only [Act.put, List.setIfInBounds_toArray, List.set_cons_zero, List.set_cons_succ]
                        refine wpAnyH_takeD (i := 2) (some 134) (v := ?_) rfl rfl (by kernel_rfl) (by kernel_rfl) (by kernel_rfl) (fun _ _ _ h => h) (Or.inl ⟨by rfl, ?_⟩) (by assumption) ?_
                        rotate_left
                        · (intro w hSw; (try dsimp only at hSw); go_simp; try with_reducible rfl)
                        try simp only [Act.put, List.setIfInBounds_toArray, List.set_cons_zero, List.set_cons_succ]
                        refine wpAnyH_takeD (i := 3) (some 135) (v := ?_) rfl rfl (by kernel_rfl) (by kernel_rfl) (by kernel_rfl) (fun _ _ _ h => h) (Or.inl ⟨by rfl, ?_⟩) (by assumption) ?_
                        rotate_left
                        · (intro w hSw; (try dsimp only at hSw); go_simp; try with_reducible rfl)
                        try simp only [Act.put, List.setIfInBounds_toArray, List.set_cons_zero, List.set_cons_succ]
                        refine wpAnyH_takeD (i := 4) (some 136) (v := ?_) rfl rfl (by kernel_rfl) (by kernel_rfl) (by kernel_rfl) (fun _ _ _ h => h) (Or.inl ⟨by rfl, ?_⟩) (by assumption) ?_
                        rotate_left
                        · (intro w hSw; (try dsimp only at hSw); go_simp; try with_reducible rfl)
                        try simp only [Act.put, List.setIfInBounds_toArray, List.set_cons_zero, List.set_cons_succ]
                        refine wpAnyH_takeD (i := 5) (some 137) (v := ?_) rfl rfl (by kernel_rfl) (by kernel_rfl) (by kernel_rfl) (fun _ _ _ h => h) (Or.inl ⟨by rfl, ?_⟩) (by assumption) ?_
                        rotate_left
                        · (intro w hSw; (try dsimp only at hSw); go_simp; try with_reducible rfl)
                        try simp only [Act.put, List.setIfInBounds_toArray, List.set_cons_zero, List.set_cons_succ]
                        refine wpAnyH_takeD (i := 6) (some 138) (v := ?_) rfl rfl (by kernel_rfl) (by kernel_rfl) (by kernel_rfl) (fun _ _ _ h => h) (Or.inl ⟨by rfl, ?_⟩) (by assumption) ?_
                        rotate_left
                        · (intro w hSw; (try dsimp only at hSw); go_simp; try with_reducible rfl)
                        try simp only [Act.put, List.setIfInBounds_toArray, List.set_cons_zero, List.set_cons_succ]
                        refine wpAnyH_takeD (i := 7) (some 139) (v := ?_) rfl rfl (by kernel_rfl) (by kernel_rfl) (by kernel_rfl) (fun _ _ _ h => h) (Or.inl ⟨by rfl, ?_⟩) (by assumption) ?_
                        rotate_left
                        · (intro w hSw; (try dsimp only at hSw); go_simp; try with_reducible rfl)
                        try simp only [Act.put, List.setIfInBounds_toArray, List.set_cons_zero, List.set_cons_succ]
                        refine wpAnyH_takeD (i := 8) (some 140) (v := ?_) rfl rfl (by kernel_rfl) (by kernel_rfl) (by kernel_rfl) (fun _ _ _ h => h) (Or.inl ⟨by rfl, ?_⟩) (by assumption) ?_
                        rotate_left
                        · (intro w hSw; (try dsimp only at hSw); go_simp; try with_reducible rfl)
                        try simp only [Act.put, List.setIfInBounds_toArray, List.set_cons_zero, List.set_cons_succ]
                        refine wpAnyH_takeD (i := 9) (some 141) (v := ?_) rfl rfl (by kernel_rfl) (by kernel_rfl) (by kernel_rfl) (fun _ _ _ h => h) (Or.inl ⟨by rfl, ?_⟩) (by assumption) ?_
                        rotate_left
                        · (intro w hSw; (try dsimp only at hSw); go_simp; try with_reducible rfl)
                        try simp only [Act.put, List.setIfInBounds_toArray, List.set_cons_zero, List.set_cons_succ]
                        refine wpAnyH_takeD (i := 10) (some 142) (v := ?_) rfl rfl (by kernel_rfl) (by kernel_rfl) (by kernel_rfl) (fun _ _ _ h => h) (Or.inl ⟨by rfl, ?_⟩) (by assumption) ?_
                        rotate_left
                        · (intro w hSw; (try dsimp only at hSw); go_simp; try with_reducible rfl)
                        try simp only [Act.put, List.setIfInBounds_toArray, List.set_cons_zero, List.set_cons_succ]
                        refine wpAnyH_takeD (i := 11) (some 143) (v := ?_) rfl rfl (by kernel_rfl) (by kernel_rfl) (by kernel_rfl) (fun _ _ _ h => h) (Or.inl ⟨by rfl, ?_⟩) (by assumption) ?_
                        rotate_left
                        · (intro w hSw; (try dsimp only at hSw); go_simp; try with_reducible rfl)
                        try simp only [Act.put, List.setIfInBounds_toArray, List.set_cons_zero, List.set_cons_succ]
                        refine wpAnyH_takeD (i := 12) (some 144) (v := ?_) rfl rfl (by kernel_rfl) (by kernel_rfl) (by kernel_rfl) (fun _ _ _ h => h) (Or.inl ⟨by rfl, ?_⟩) (by assumption) ?_
                        rotate_left
                        · (intro w hSw; (try dsimp only at hSw); go_simp; try with_reducible rfl)
                        try simp only [Act.put, List.setIfInBounds_toArray, List.set_cons_zero, List.set_cons_succ]
                        refine wpAnyH_takeD (i := 13) (some 145) (v := ?_) rfl rfl (by kernel_rfl) (by kernel_rfl) (by kernel_rfl) (fun _ _ _ h => h) (Or.inl ⟨by rfl, ?_⟩) (by assumption) ?_
                        rotate_left
                        · (intro w hSw; (try dsimp only at hSw); go_simp; try with_reducible rfl)
                        try simp only [Act.put, List.setIfInBounds_toArray, List.set_cons_zero, List.set_cons_succ]
                        refine wpAnyH_takeD (i := 14) (some 146) (v := ?_) rfl rfl (by kernel_rfl) (by kernel_rfl) (by kernel_rfl) (fun _ _ _ h => h) (Or.inl ⟨by rfl, ?_⟩) (by assumption) ?_
                        rotate_left
                        · (intro w hSw; (try dsimp only at hSw); go_simp; try with_reducible rfl)
                        try simp only [Act.put, List.setIfInBounds_toArray, List.set_cons_zero, List.set_cons_succ]
                        refine wpAnyH_takeD (i := 15) (some 147) (v := ?_) rfl rfl (by kernel_rfl) (by kernel_rfl) (by kernel_rfl) (fun _ _ _ h => h) (Or.inl ⟨by rfl, ?_⟩) (by assumption) ?_
                        rotate_left
                        · (intro w hSw; (try dsimp only at hSw); go_simp; try with_reducible rfl)
                        try simp only [Act.put, List.setIfInBounds_toArray, List.set_cons_zero, List.set_cons_succ]
                        refine wpAnyH_takeD (i := 16) (some 148) (v := ?_) rfl rfl (by kernel_rfl) (by kernel_rfl) (by kernel_rfl) (fun _ _ _ h => h) (Or.inl ⟨by rfl, ?_⟩) (by assumption) ?_
                        rotate_left
                        · (intro w hSw; (try dsimp only at hSw); go_simp; try with_reducible rfl)
                        try simp only [Act.put, List.setIfInBounds_toArray, List.set_cons_zero, List.set_cons_succ]
                        refine wpAnyH_takeD (i := 17) (some 149) (v := ?_) rfl rfl (by kernel_rfl) (by kernel_rfl) (by kernel_rfl) (fun _ _ _ h => h) (Or.inl ⟨by rfl, ?_⟩) (by assumption) ?_
                        rotate_left
                        · (intro w hSw; (try dsimp only at hSw); go_simp; try with_reducible rfl)
                        try simp only [Act.put, List.setIfInBounds_toArray, List.set_cons_zero, List.set_cons_succ]
                        refine wpAnyH_takeD (i := 18) (some 150) (v := ?_) rfl rfl (by kernel_rfl) (by kernel_rfl) (by kernel_rfl) (fun _ _ _ h => h) (Or.inl ⟨by rfl, ?_⟩) (by assumption) ?_
                        rotate_left
                        · (intro w hSw; (try dsimp only at hSw); go_simp; try with_reducible rfl)
                        try simp only [Act.put, List.setIfInBounds_toArray, List.set_cons_zero, List.set_cons_succ]
                        refine wpAnyH_takeD (i := 19) (some 151) (v := ?_) rfl rfl (by kernel_rfl) (by kernel_rfl) (by kernel_rfl) (fun _ _ _ h => h) (Or.inl ⟨by rfl, ?_⟩) (by assumption) ?_
                        rotate_left
                        · (intro w hSw; (try dsimp only at hSw); go_simp; try with_reducible rfl)
                        try simp only [Act.put, List.setIfInBounds_toArray, List.set_cons_zero, List.set_cons_succ]
                        refine wpAnyH_takeD (i := 20) (some 152) (v := ?_) rfl rfl (by kernel_rfl) (by kernel_rfl) (by kernel_rfl) (fun _ _ _ h => h) (Or.inl ⟨by rfl, ?_⟩) (by assumption) ?_
                        rotate_left
                        · (intro w hSw; (try dsimp only at hSw); go_simp; try with_reducible rfl)
                        try simp only [Act.put, List.setIfInBounds_toArray, List.set_cons_zero, List.set_cons_succ]
                        refine wpAnyH_takeD (i := 21) (some 153) (v := ?_) rfl rfl (by kernel_rfl) (by kernel_rfl) (by kernel_rfl) (fun _ _ _ h => h) (Or.inl ⟨by rfl, ?_⟩) (by assumption) ?_
                        rotate_left
                        · (intro w hSw; (try dsimp only at hSw); go_simp; try with_reducible rfl)
                        try simp only [Act.put, List.setIfInBounds_toArray, List.set_cons_zero, List.set_cons_succ]
                        refine wpAnyH_takeD (i := 22) (some 154) (v := ?_) rfl rfl (by kernel_rfl) (by kernel_rfl) (by kernel_rfl) (fun _ _ _ h => h) (Or.inl ⟨by rfl, ?_⟩) (by assumption) ?_
                        rotate_left
                        · (intro w hSw; (try dsimp only at hSw); go_simp; try with_reducible rfl)
                        try simp only [Act.put, List.setIfInBounds_toArray, List.set_cons_zero, List.set_cons_succ]
                        refine wpAnyH_takeD (i := 23) (some 155) (v := ?_) rfl rfl (by kernel_rfl) (by kernel_rfl) (by kernel_rfl) (fun _ _ _ h => h) (Or.inl ⟨by rfl, ?_⟩) (by assumption) ?_
                        rotate_left
                        · (intro w hSw; (try dsimp only at hSw); go_simp; try with_reducible rfl)
                        try simp only [Act.put, List.setIfInBounds_toArray, List.set_cons_zero, List.set_cons_succ]
                        refine wpAnyH_takeD (i := 24) (some 156) (v := ?_) rfl rfl (by kernel_rfl) (by kernel_rfl) (by kernel_rfl) (fun _ _ _ h => h) (Or.inl ⟨by rfl, ?_⟩) (by assumption) ?_
                        rotate_left
                        · (intro w hSw; (try dsimp only at hSw); go_simp; try with_reducible rfl)
                        try simp only [Act.put, List.setIfInBounds_toArray, List.set_cons_zero, List.set_cons_succ]
                        refine wpAnyH_takeD (i := 25) (some 157) (v := ?_) rfl rfl (by kernel_rfl) (by kernel_rfl) (by kernel_rfl) (fun _ _ _ h => h) (Or.inl ⟨by rfl, ?_⟩) (by assumption) ?_
                        rotate_left
                        · (intro w hSw; (try dsimp only at hSw); go_simp; try with_reducible rfl)
                        try simp only [Act.put, List.setIfInBounds_toArray, List.set_cons_zero, List.set_cons_succ]
                        refine wpAnyH_takeD (i := 26) (some 158) (v := ?_) rfl rfl (by kernel_rfl) (by kernel_rfl) (by kernel_rfl) (fun _ _ _ h => h) (Or.inl ⟨by rfl, ?_⟩) (by assumption) ?_
                        rotate_left
                        · (intro w hSw; (try dsimp only at hSw); go_simp; try with_reducible rfl)
                        try simp only [Act.put, List.setIfInBounds_toArray, List.set_cons_zero, List.set_cons_succ]
                        refine wpAnyH_takeD (i := 27) (some 159) (v := ?_) rfl rfl (by kernel_rfl) (by kernel_rfl) (by kernel_rfl) (fun _ _ _ h => h) (Or.inl ⟨by rfl, ?_⟩) (by assumption) ?_
                        rotate_left
                        · (intro w hSw; (try dsimp only at hSw); go_simp; try with_reducible rfl)
                        try simp only [Act.put, List.setIfInBounds_toArray, List.set_cons_zero, List.set_cons_succ]
                        refine wpAnyH_takeD (i := 28) (some 160) (v := ?_) rfl rfl (by kernel_rfl) (by kernel_rfl) (by kernel_rfl) (fun _ _ _ h => h) (Or.inl ⟨by rfl, ?_⟩) (by assumption) ?_
                        rotate_left
                        · (intro w hSw; (try dsimp only at hSw); go_simp; try with_reducible rfl)
                        try simp only [Act.put, List.setIfInBounds_toArray, List.set_cons_zero, List.set_cons_succ]
                        refine wpAnyH_takeD (i := 29) (some 161) (v := ?_) rfl rfl (by kernel_rfl) (by kernel_rfl) (by kernel_rfl) (fun _ _ _ h => h) (Or.inl ⟨by rfl, ?_⟩) (by assumption) ?_
                        rotate_left
                        · (intro w hSw; (try dsimp only at hSw); go_simp; try with_reducible rfl)
                        try simp only [Act.put, List.setIfInBounds_toArray, List.set_cons_zero, List.set_cons_succ]
                        refine wpAnyH_takeD (i := 30) (some 162) (v := ?_) rfl rfl (by kernel_rfl) (by kernel_rfl) (by kernel_rfl) (fun _ _ _ h => h) (Or.inl ⟨by rfl, ?_⟩) (by assumption) ?_
                        rotate_left
                        · (intro w hSw; (try dsimp only at hSw); go_simp; try with_reducible rfl)
                        try simp only [Act.put, List.setIfInBounds_toArray, List.set_cons_zero, List.set_cons_succ]
                        refine wpAnyH_takeD (i := 31) (some 163) (v := ?_) rfl rfl (by kernel_rfl) (by kernel_rfl) (by kernel_rfl) (fun _ _ _ h => h) (Or.inl ⟨by rfl, ?_⟩) (by assumption) ?_
                        rotate_left
                        · (intro w hSw; (try dsimp only at hSw); go_simp; try with_reducible rfl)
                        try simp only [Act.put, List.setIfInBounds_toArray, List.set_cons_zero, List.set_cons_succ]
                        refine wpAnyH_takeD (i := 32) (some 164) (v := ?_) rfl rfl (by kernel_rfl) (by kernel_rfl) (by kernel_rfl) (fun _ _ _ h => h) (Or.inl ⟨by rfl, ?_⟩) (by assumption) ?_
                        rotate_left
                        · (intro w hSw; (try dsimp only at hSw); go_simp; try with_reducible rfl)
                        try simp only [Act.put, List.setIfInBounds_toArray, List.set_cons_zero, List.set_cons_succ]
                        refine wpAnyH_takeD (i := 33) (some 165) (v := ?_) rfl rfl (by kernel_rfl) (by kernel_rfl) (by kernel_rfl) (fun _ _ _ h => h) (Or.inl ⟨by rfl, ?_⟩) (by assumption) ?_
                        rotate_left
                        · (intro w hSw; (try dsimp only at hSw); go_simp; try with_reducible rfl)
                        try simp only [Act.put, List.setIfInBounds_toArray, List.set_cons_zero, List.set_cons_succ]
                        refine wpAnyH_takeD (i := 34) (some 166) (v := ?_) rfl rfl (by kernel_rfl) (by kernel_rfl) (by kernel_rfl) (fun _ _ _ h => h) (Or.inl ⟨by rfl, ?_⟩) (by assumption) ?_
                        rotate_left
                        · (intro w hSw; (try dsimp only at hSw); go_simp; try with_reducible rfl)
                        try simp only [Act.put, List.setIfInBounds_toArray, List.set_cons_zero, List.set_cons_succ]
                        refine wpAnyH_takeD (i := 35) (some 167) (v := ?_) rfl rfl (by kernel_rfl) (by kernel_rfl) (by kernel_rfl) (fun _ _ _ h => h) (Or.inl ⟨by rfl, ?_⟩) (by assumption) ?_
                        rotate_left
                        · (intro w hSw; (try dsimp only at hSw); go_simp; try with_reducible rfl)
                        try simp only [Act.put, List.setIfInBounds_toArray, List.set_cons_zero, List.set_cons_succ]
                        refine wpAnyH_takeD (i := 36) (some 168) (v := ?_) rfl rfl (by kernel_rfl) (by kernel_rfl) (by kernel_rfl) (fun _ _ _ h => h) (Or.inl ⟨by rfl, ?_⟩) (by assumption) ?_
                        rotate_left
                        · (intro w hSw; (try dsimp only at hSw); go_simp; try with_reducible rfl)
                        try simp only [Act.put, List.setIfInBounds_toArray, List.set_cons_zero, List.set_cons_succ]
                        refine wpAnyH_takeD (i := 37) (some 169) (v := ?_) rfl rfl (by kernel_rfl) (by kernel_rfl) (by kernel_rfl) (fun _ _ _ h => h) (Or.inl ⟨by rfl, ?_⟩) (by assumption) ?_
                        rotate_left
                        · (intro w hSw; (try dsimp only at hSw); go_simp; try with_reducible rfl)
                        try simp only [Act.put, List.setIfInBounds_toArray, List.set_cons_zero, List.set_cons_succ]
                        refine wpAnyH_takeD (i := 38) (some 170) (v := ?_) rfl rfl (by kernel_rfl) (by kernel_rfl) (by kernel_rfl) (fun _ _ _ h => h) (Or.inl ⟨by rfl, ?_⟩) (by assumption) ?_
                        rotate_left
                        · (intro w hSw; (try dsimp only at hSw); go_simp; try with_reducible rfl)
                        try simp only [Act.put, List.setIfInBounds_toArray, List.set_cons_zero, List.set_cons_succ]
                        refine wpAnyH_takeD (i := 39) (some 171) (v := ?_) rfl rfl (by kernel_rfl) (by kernel_rfl) (by kernel_rfl) (fun _ _ _ h => h) (Or.inl ⟨by rfl, ?_⟩) (by assumption) ?_
                        rotate_left
                        · (intro w hSw; (try dsimp only at hSw); go_simp; try with_reducible rfl)
                        try simp only [Act.put, List.setIfInBounds_toArray, List.set_cons_zero, List.set_cons_succ]
                        refine wpAnyH_takeD (i := 40) (some 172) (v := ?_) rfl rfl (by kernel_rfl) (by kernel_rfl) (by kernel_rfl) (fun _ _ _ h => h) (Or.inl ⟨by rfl, ?_⟩) (by assumption) ?_
                        rotate_left
                        · (intro w hSw; (try dsimp only at hSw); go_simp; try with_reducible rfl)
                        try simp only [Act.put, List.setIfInBounds_toArray, List.set_cons_zero, List.set_cons_succ]
                        refine wpAnyH_takeD (i := 41) (some 173) (v := ?_) rfl rfl (by kernel_rfl) (by kernel_rfl) (by kernel_rfl) (fun _ _ _ h => h) (Or.inl ⟨by rfl, ?_⟩) (by assumption) ?_
                        rotate_left
                        · (intro w hSw; (try dsimp only at hSw); go_simp; try with_reducible rfl)
                        try simp only [Act.put, List.setIfInBounds_toArray, List.set_cons_zero, List.set_cons_succ]
                        refine wpAnyH_takeD (i := 42) (some 174) (v := ?_) rfl rfl (by kernel_rfl) (by kernel_rfl) (by kernel_rfl) (fun _ _ _ h => h) (Or.inl ⟨by rfl, ?_⟩) (by assumption) ?_
                        rotate_left
                        · (intro w hSw; (try dsimp only at hSw); go_simp; try with_reducible rfl)
                        try simp only [Act.put, List.setIfInBounds_toArray, List.set_cons_zero, List.set_cons_succ]
                        refine wpAnyH_takeD (i := 43) (some 175) (v := ?_) rfl rfl (by kernel_rfl) (by kernel_rfl) (by kernel_rfl) (fun _ _ _ h => h) (Or.inl ⟨by rfl, ?_⟩) (by assumption) ?_
                        rotate_left
                        · (intro w hSw; (try dsimp only at hSw); go_simp; try with_reducible rfl)
                        try simp only [Act.put, List.setIfInBounds_toArray, List.set_cons_zero, List.set_cons_succ]
                        refine wpAnyH_takeD (i := 44) (some 176) (v := ?_) rfl rfl (by kernel_rfl) (by kernel_rfl) (by kernel_rfl) (fun _ _ _ h => h) (Or.inl ⟨by rfl, ?_⟩) (by assumption) ?_
                        rotate_left
                        · (intro w hSw; (try dsimp only at hSw); go_simp; try with_reducible rfl)
                        try simp only [Act.put, List.setIfInBounds_toArray, List.set_cons_zero, List.set_cons_succ]
                        refine wpAnyH_ready (rs := [45]) (by kernel_rfl) (by simp) ?_
                        refine AllReadyH.cons (o := _) rfl (fun K hK => ?_) AllReadyH.nil
                        go_simp
                        refine HT.out.mono ?_
                        rintro e w10 ⟨rfl, hb10⟩
                        have hb11 := bel_then (bel_d (Below.refl _ Y)) hb10
                        have HB10 := Lib.hid (bel_then HBY.out hb11)
                        go_simp
                        refine hK.out _ _ (KS.out _ hb11) (fun hHeld => ?_)
                        clear hK K
                        try simp only [Act.put, List.setIfInBounds_toArray, List.set_cons_zero, List.set_cons_succ]
                        refine wpAnyH_takeD (i := 46) (some 178) (v := ?_) rfl rfl (by kernel_rfl) (by kernel_rfl) (by kernel_rfl) (fun _ _ _ h => h) (Or.inl ⟨by rfl, ?_⟩) (by assumption) ?_
                        rotate_left
                        · (intro w hSw; (try dsimp only at hSw); go_simp; try with_reducible rfl)
                        try simp only [Act.put, List.setIfInBounds_toArray, List.set_cons_zero, List.set_cons_succ]
                        refine wpAnyH_takeD (i := 47) (some 179) (v := ?_) rfl rfl (by kernel_rfl) (by kernel_rfl) (by kernel_rfl) (fun _ _ _ h => h) (Or.inl ⟨by rfl, ?_⟩) (by assumption) ?_
                        rotate_left
                        · (intro w hSw; (try dsimp only at hSw); go_simp; try with_reducible rfl)
                        try simp only [Act.put, List.setIfInBounds_toArray, List.set_cons_zero, List.set_cons_succ]
                        refine wpAnyH_done (by kernel_rfl) ?_ _
                        clear hHeld KS hb10 hb11 hEQ HEQ HT HBY HB9
                        go_wp2_with fail
                        go_loopg [22] (k + 1) (fun gg s22 wx => ∃ j : Nat, j ≤ k ∧ k - j < gg ∧ s22 = .int .i64 j ∧ Aside (Below w10.heap.size w10 wx))
                        case atStart => exact ⟨0, by omega, by omega, rfl, Below.refl _ _⟩
                        case round =>
                          as_aux_lemma =>
                            obtain ⟨j, hj, hg3, rfl, HBj⟩ := hrel
                            by_cases hjk : j < k
                            · have hjkz : (j : Int) < (k : Int) := by omega
                              have hjz : (j : Int) < (M : Int) := by omega
                              have hbb := bel_then HB10.out HBj.out
                              obtain ⟨b', off', he', hbs', hc'⟩ := (HR5.out.below (bel_then HB.out hbb)).twelve (j := j) (by omega) HM.out.symm
                              injection he' with he'
                              injection he' with q1 q2 _
                              subst q1 q2
                              obtain ⟨g, hgf⟩ : ∃ g, g = (Fl.used sl')[j]'(by rw [← HM.out]; omega) := ⟨_, rfl⟩
                              rw [← hgf] at hc'
                              have hsg := HX1.out j (by rw [← HM.out]; omega)
                              rw [← hgf] at hsg
                              have hlt := HX2.out j k hjk (by rw [← HM.out]; exact hkM)
                              rw [← HIi.out] at hlt
                              obtain ⟨p1, p2, p3, p4⟩ := HI.out.apart hsg HSf.out (by omega)
                              have d1 : decide (g.th = f.th) = false := decide_eq_false p1
                              have d2 : decide (g.bk = f.bk) = false := decide_eq_false p2
                              have d3 : decide (g.th = f.bk) = false := decide_eq_false p3
                              have d4 : decide (g.bk = f.th) = false := decide_eq_false p4
                              obtain ⟨f0, f1, f2, f3, f4, f5, f6, f7, f8, f9, f10, f11⟩ := HKC.out wr hbb
                              have g0 : wr.cell? ⟨b, off + j * 12, none⟩ = some (.int .i64 g.th.pr) := hc' 0 _ rfl
                              have g1 : wr.cell? ⟨b, off + j * 12 + 1, none⟩ = some (.int .u32 g.th.sr) := hc' 1 _ rfl
                              have g2 : wr.cell? ⟨b, off + j * 12 + 2, none⟩ = some (.int .i64 g.th.sp) := hc' 2 _ rfl
                              have g3 : wr.cell? ⟨b, off + j * 12 + 3, none⟩ = some (.int .u32 g.th.ds) := hc' 3 _ rfl
                              have g4 : wr.cell? ⟨b, off + j * 12 + 4, none⟩ = some (.int .i64 g.th.dp) := hc' 4 _ rfl
                              have g5 : wr.cell? ⟨b, off + j * 12 + 5, none⟩ = some (.int .i64 g.bk.pr) := hc' 5 _ rfl
                              have g6 : wr.cell? ⟨b, off + j * 12 + 6, none⟩ = some (.int .u32 g.bk.sr) := hc' 6 _ rfl
                              have g7 : wr.cell? ⟨b, off + j * 12 + 7, none⟩ = some (.int .i64 g.bk.sp) := hc' 7 _ rfl
                              have g8 : wr.cell? ⟨b, off + j * 12 + 8, none⟩ = some (.int .u32 g.bk.ds) := hc' 8 _ rfl
                              have g9 : wr.cell? ⟨b, off + j * 12 + 9, none⟩ = some (.int .i64 g.bk.dp) := hc' 9 _ rfl
                              clear hc' hgf hsg hlt p1 p2 p3 p4 hbb hbs'
                              go_wp2_with fail
                              go_quiet (fail)
                              go_wp2_with fail
                              go_roundg (gk - 1)
                              case measure => omega
                              case rel => exact ⟨j + 1, by omega, by omega, by go_num, below_drewN HBj.out _⟩
                            · obtain rfl : k = j := by omega
                              have HBn := Lib.hid (bel_then HB.out (bel_then HB10.out HBj.out))
                              clear hjk
                              go_wp2_with fail
                              go_roundg G2
                              case measure => omega
                              case rel => exact ⟨k + 1, by omega, by omega, by go_num, HBn.out⟩
                      · obtain rfl : M = k := by omega
                        have HSn := Lib.hid (HS5.out.below HB.out)
                        clear hkM HI HX1 HX2 HR5
                        go_wp2_with fail
                        go_roundg G1
                        case measure => omega
                        case rel => exact ⟨i + 1, now', sl', by omega, by omega, by omega, rfl, by go_num, HSn.out, HL4.out⟩
            · have hi120z : ¬ (i : Int) < 120 := by omega
              go_wp2_with fail
              go_ret
              exact ⟨rfl, bel_then Hb1.out HS.out.bel⟩
          · have himz : ¬ (i : Int) < (m : Int) := by omega
            go_wp2_with fail
            go_ret
            exact ⟨rfl, bel_then Hb1.out HS.out.bel⟩
end Go.Proofs.Ytdboehogkmidbaa
