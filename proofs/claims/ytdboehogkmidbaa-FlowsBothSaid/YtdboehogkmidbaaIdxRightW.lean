/- The walk of index.Right. -/
import Derived.Test.YtdboehogkmidbaaIdxLen
namespace Go.Proofs.Ytdboehogkmidbaa
open Go.RowKit
set_option linter.unusedVariables false
attribute [local go_sem ↓] eq_key eq_cell_f
theorem Idx.right_no {l : List Idx.Cell} (h : Idx.size l.length = false ∨ Idx.many l = l.length) : Idx.Right l = false := by
  cases hr : Idx.Right l
  · rfl
  · have := Idx.right_iff.1 hr
    rcases h with h | h
    · rw [this.size] at h; cases h
    · have := this.room; omega
theorem Idx.right_fail {l : List Idx.Cell} {i : Nat} (hi : i < l.length) (h : Idx.fine l i = false) : Idx.Right l = false := by
  unfold Idx.Right
  rw [Bool.and_eq_false_iff]
  right
  rw [List.all_eq_false]
  exact ⟨i, List.mem_range.2 hi, by rw [h]; simp⟩
theorem Idx.right_yes {l : List Idx.Cell} (h1 : Idx.size l.length = true) (h2 : Idx.many l < l.length) (h : ∀ i, i < l.length → Idx.fine l i = true) : Idx.Right l = true := by
  unfold Idx.Right
  simp only [Bool.and_eq_true, decide_eq_true_eq, List.all_eq_true, List.mem_range]
  exact ⟨⟨h1, h2⟩, h⟩
theorem Idx.fine_free {l : List Idx.Cell} {i : Nat} (h : (Idx.at' l i).u = false) : Idx.fine l i = decide (Idx.at' l i = Idx.Cell.nil) := by
  unfold Idx.fine; rw [if_neg (by simp [h])]
theorem Idx.fine_used {l : List Idx.Cell} {i p : Nat} (h : (Idx.at' l i).u = true) (hf : Idx.fnd l (Idx.at' l i).k = some p) : Idx.fine l i = (decide (p = i) && Idx.right (Idx.at' l i).k) := by
  unfold Idx.fine; rw [if_pos h, hf]; simp
theorem cell7 {w : World} {g : Nat} {T : TypeId} {a b c d e f h : Value} (H : BlkV w g T [a, b, c, d, e, f, h]) : w.cell? ⟨g, 0, none⟩ = some a ∧ w.cell? ⟨g, 1, none⟩ = some b ∧ w.cell? ⟨g, 2, none⟩ = some c ∧ w.cell? ⟨g, 3, none⟩ = some d ∧ w.cell? ⟨g, 4, none⟩ = some e ∧ w.cell? ⟨g, 5, none⟩ = some f ∧ w.cell? ⟨g, 6, none⟩ = some h :=
  ⟨H.cell rfl, H.cell rfl, H.cell rfl, H.cell rfl, H.cell rfl, H.cell rfl, H.cell rfl⟩
set_option maxRecDepth 8000 in
set_option maxHeartbeats 4000000 in
theorem iright_spec (A : Option Addr) (n c : Nat) (l : List Idx.Cell) (w : World) (hT : TabR w A n l) (hn : n ≤ 9223372036854775807) :
    Calls Try.prog 31 #[.slice A n c] w fun e w' => e = .returned (.bool (Idx.Right l)) ∧ Below w.heap.size w w' := by
  have HT := Lib.hid hT
  have hl := Lib.hid hT.len
  have HL := Lib.hid (len_spec A n c l w hT hn)
  have HP := Lib.hid (places_spec n w (by omega) (by omega))
  clear hT
  cases hs : Idx.size n
  · have HR : Hid (Idx.Right l = false) := Lib.hid (Idx.right_no (.inl (by rw [hl.out]; exact hs)))
    rw [hs] at HP
    clear hs
    go_enter Try.func31, Try.ntmps31
    go_wp2_with (refine HP.out.mono ?_; rintro e w' ⟨rfl, rfl⟩)
    go_ret
    exact ⟨ret_bool (by rw [HR.out]), Below.refl _ _⟩
  · have HN := Lib.hid hs
    rw [hs] at HP
    have hml := Idx.many_le l
    rw [hl.out] at hml
    by_cases hm : Idx.many l = n
    · have HR : Hid (Idx.Right l = false) := Lib.hid (Idx.right_no (.inr (by rw [hl.out]; exact hm)))
      rw [hm] at HL
      clear hs hm
      go_enter Try.func31, Try.ntmps31
      go_wp2_with (first | ((with_reducible refine HP.out.mono ?_); rintro e w' ⟨rfl, rfl⟩) | ((with_reducible refine HL.out.mono ?_); rintro e w' ⟨rfl, hb⟩))
      go_ret
      exact ⟨ret_bool (by rw [HR.out]), hb⟩
    · have HRY : Hid ((∀ i, i < n → Idx.fine l i = true) → Idx.Right l = true) := Lib.hid fun h => Idx.right_yes (by rw [hl.out]; exact hs) (by rw [hl.out]; omega) (by rw [hl.out]; exact h)
      have HFF : Hid (∀ k, ∃ p, Idx.fnd l k = some p) := Lib.hid fun k => by
        obtain ⟨e, he, hu⟩ := Idx.empty_of_many (l := l) (by rw [hl.out]; omega)
        exact Idx.fnd_of_stop he (Idx.stop_true.2 (.inl hu))
      have hmz : ((Idx.many l : Nat) : Int) < (n : Int) := by omega
      have hmne : ((Idx.many l : Int) == (n : Int)) = false := by simpa using (by omega : (Idx.many l : Int) ≠ n)
      clear hs hm
      generalize Idx.many l = m at *
      go_enter Try.func31, Try.ntmps31
      go_wp2_with (first | ((with_reducible refine HP.out.mono ?_); rintro e w' ⟨rfl, rfl⟩) | ((with_reducible refine HL.out.mono ?_); rintro e w0 ⟨rfl, hb0⟩))
      clear HL HP hmne hmz hml
      have HB0 := Lib.hid hb0
      go_loopg [20] n (fun gg i wx => ∃ j : Nat, j ≤ n ∧ n - j ≤ gg ∧ i = .int .i64 j ∧ Aside (Below w.heap.size w wx) ∧ Aside (∀ i, i < j → Idx.fine l i = true))
      case atStart => exact ⟨0, by omega, by omega, rfl, hb0, fun i hi => by omega⟩
      case round =>
        obtain ⟨j, hj, hg, rfl, BW, BF⟩ := hrel
        clear hb0 HB0
        by_cases hlt : j < n
        · have hltz : (j : Int) < (n : Int) := by omega
          have hTr := HT.out.below BW.out
          obtain ⟨b, off, rfl, hbs, e0, e1, e2, e3, e4, e5, e6⟩ := hTr.seven hlt
          have HTr := Lib.hid hTr
          have HKW := Lib.hid (hTr.keyf j)
          clear hTr
          have HFR : Hid (Idx.fine l j = false → Idx.Right l = false) := Lib.hid fun h => Idx.right_fail (by rw [hl.out]; exact hlt) h
          have HF0 := Lib.hid (Idx.fine_free (l := l) (i := j))
          have HF1 : Hid (∀ p, (Idx.at' l j).u = true → Idx.fnd l (Idx.at' l j).k = some p → Idx.fine l j = (decide (p = j) && Idx.right (Idx.at' l j).k)) := Lib.hid fun p => Idx.fine_used
          generalize hx : Idx.at' l j = x at *
          have HXX := Lib.hid hx
          clear hx
          obtain ⟨xu, k, xn⟩ := x
          dsimp only at e0 e1 e2 e3 e4 e5 e6 HKW HF0 HF1
          cases xu
          · have HF := Lib.hid (HF0.out rfl)
            clear HF0 HF1
            cases hd : decide ((⟨false, k, xn⟩ : Idx.Cell) = Idx.Cell.nil)
            · rw [hd] at HF
              have HE := Lib.hid (HFR.out HF.out)
              go_wp2
              go_ret
              exact ⟨ret_bool (by rw [HE.out]), by repeat (first | exact BW.out | refine bel_al2 ?_ _ | refine Below.setCell ?_ ?_ _)⟩
            · rw [hd] at HF
              go_wp2
              go_roundg (n - (j + 1))
              case measure => omega
              case rel => exact ⟨j + 1, by omega, by omega, by go_num, by repeat (first | exact BW.out | refine bel_al2 ?_ _ | refine Below.setCell ?_ ?_ _), (show Aside _ from fun i hi => by by_cases e : i = j; (rw [e]; exact HF.out); exact BF.out i (by omega))⟩
          · obtain ⟨p, hp⟩ := HFF.out k
            have HF := Lib.hid (HF1.out p rfl hp)
            have HPp := Lib.hid hp
            clear HF0 HF1 hp
            go_upto_region 6 with (fail)
            obtain ⟨W1, hW1⟩ : ∃ W1, W1 = wr.alloc (.cells #[.bool true, .int .i64 k.pr, .int .u32 k.sr, .int .i64 k.sp, .int .u32 k.ds, .int .i64 k.dp, .int .i64 xn] 82) := ⟨_, rfl⟩
            obtain ⟨g, hgg⟩ : ∃ g, g = wr.heap.size := ⟨_, rfl⟩
            have B1 : BlkV W1 g 82 [.bool true, .int .i64 k.pr, .int .u32 k.sr, .int .i64 k.sp, .int .u32 k.ds, .int .i64 k.dp, .int .i64 xn] := by rw [hW1, hgg]; exact BlkV.new _ _ _
            have hb1 : Below w.heap.size w W1 := by rw [hW1]; exact bel_al2 BW.out _
            have hw1 : Below wr.heap.size wr W1 := by rw [hW1]; exact bel_al2 (Below.refl _ _) _
            have HT1 := Lib.hid (HTr.out.below hw1)
            rw [← hW1, ← hgg]
            clear hW1 hgg e0 e1 e2 e3 e4 e5 e6 hw1 HTr
            have HFS := Lib.hid (find_spec (some ⟨b, off, none⟩) n c l k p W1 HT1.out HKW.out HN.out HPp.out)
            obtain ⟨c0, c1, c2, c3, c4, c5, c6⟩ := cell7 B1
            go_wp2_with fail
            refine HFS.out.mono ?_
            rintro e w2 ⟨rfl, hb2⟩
            have HBB := Lib.hid (bel_then hb1 hb2)
            obtain ⟨d0, d1, d2, d3, d4, d5, d6⟩ := cell7 (B1.below hb2)
            clear c0 c1 c2 c3 c4 c5 c6 HFS hb2 B1
            have HPJ : Hid (p = j → (Idx.at' l p).u = true) := Lib.hid (by rintro rfl; rw [‹Hid (Idx.at' l p = ⟨true, k, xn⟩)›.out])
            generalize (Idx.at' l p).u = up at *
            cases up
            · have HE : Hid (Idx.Right l = false) := Lib.hid (HFR.out (by
                rw [HF.out]
                have : p ≠ j := fun e => by have := HPJ.out e; cases this
                simp [this]))
              go_wp2_with fail
              go_ret
              exact ⟨ret_bool (by rw [HE.out]), HBB.out⟩
            · by_cases hpj : p = j
              · subst hpj
                have HTR := Lib.hid (tright_spec k w2)
                cases hr : Idx.right k
                · have HE : Hid (Idx.Right l = false) := Lib.hid (HFR.out (by rw [HF.out, hr]; simp))
                  rw [hr] at HTR
                  clear hr
                  go_wp2_with fail
                  refine HTR.out.mono ?_
                  rintro e w3 ⟨rfl, hb3⟩
                  go_wp2_with fail
                  go_ret
                  exact ⟨ret_bool (by rw [HE.out]), bel_then HBB.out hb3⟩
                · have HF' : Hid (Idx.fine l p = true) := Lib.hid (by rw [HF.out, hr]; simp)
                  rw [hr] at HTR
                  clear hr HF
                  have HF := HF'
                  clear HF'
                  go_wp2_with fail
                  refine HTR.out.mono ?_
                  rintro e w3 ⟨rfl, hb3⟩
                  have HBC := Lib.hid (bel_then HBB.out hb3)
                  clear hb3
                  go_wp2_with fail
                  go_roundg (n - (p + 1))
                  case measure => omega
                  case rel => exact ⟨p + 1, by omega, by omega, by go_num, HBC.out, (show Aside _ from fun i hi => by by_cases e : i = p; (rw [e]; exact HF.out); exact BF.out i (by omega))⟩
              · have HE : Hid (Idx.Right l = false) := Lib.hid (HFR.out (by rw [HF.out]; simp [hpj]))
                have hpz : ((p : Int) == (j : Int)) = false := by simpa using (by omega : (p : Int) ≠ j)
                have hpz2 : ((p : Int) != (j : Int)) = true := by simpa using (by omega : (p : Int) ≠ j)
                clear hpj
                go_wp2_with fail
                go_ret
                exact ⟨ret_bool (by rw [HE.out]), HBB.out⟩
        · have hltz : ¬ (j : Int) < (n : Int) := by omega
          have HE := Lib.hid (HRY.out (fun i hi => BF.out i (by omega)))
          go_wp2
          go_ret
          exact ⟨ret_bool (by rw [HE.out]), BW.out⟩
end Go.Proofs.Ytdboehogkmidbaa
