/- The walks of the reference's with, New, Right, Get, Put, Del. -/
import Derived.Test.YtdfbfhejigifoaaIdxRefT
namespace Go.Proofs.Ytdfbfhejigifoaa
open Go.RowKit
set_option linter.unusedVariables false
attribute [local go_sem ↓] eq_key eq_key_nil
namespace Idx
variable {l M : List Cell}
theorem rgo {k : Key} {hole a e f : Nat} (h : DInv l M k hole a e) (hu : (at' M a).u = true) (hf : dist l.length a e < f) :
    ∃ f' p' hole', f = f' + 1 ∧ fnd (M.set a Cell.nil) (at' M a).k = some p' ∧ DInv l ((M.set a Cell.nil).set p' (at' M a)) k hole' (adv l.length a 1) e ∧
      rdelLoop f M a = rdelLoop f' ((M.set a Cell.nil).set p' (at' M a)) (adv l.length a 1) ∧ dist l.length (adv l.length a 1) e < f' := by
  have hae := h.a_ne
  have hha := h.ha
  have hhe := h.he
  have hnea : e ≠ a := by rintro rfl; rw [h.eu] at hu; cases hu
  cases f with
  | zero => omega
  | succ f =>
    have hA := adv_or hha
    have e1 := dist_or l.length (adv l.length a 1) e
    have e2 := dist_or l.length a e
    by_cases hd : dist l.length hole a ≤ dist l.length (home l.length (at' M a).k) a
    · obtain ⟨h1, h2⟩ := del_move h hu hd
      have e3 : (M.set a Cell.nil).set hole (at' M a) = (M.set hole (at' M a)).set a Cell.nil := by rw [List.set_comm _ _ hae]
      refine ⟨f, hole, a, rfl, h1, by rw [e3]; exact h2, ?_, by omega⟩
      conv => lhs; unfold rdelLoop
      rw [if_pos hu]
      simp only [h1, Option.getD_some, h.len]
    · obtain ⟨h1, h2⟩ := del_stay h hu (by omega)
      have e3 : (M.set a Cell.nil).set a (at' M a) = M := by rw [List.set_set]; exact set_at (by rw [h.len]; exact hha) rfl
      refine ⟨f, a, hole, rfl, h1, by rw [e3]; exact h2, ?_, by omega⟩
      conv => lhs; unfold rdelLoop
      rw [if_pos hu]
      simp only [h1, Option.getD_some, h.len]
theorem rstop {a f : Nat} (hu : (at' M a).u = false) : rdelLoop f M a = M := by
  cases f with
  | zero => rfl
  | succ f => unfold rdelLoop; rw [hu]; rfl
end Idx
set_option maxHeartbeats 4000000 in
theorem with_spec (A : Option Addr) (n c : Nat) (l : List Idx.Cell) (p : Nat) (x : Idx.Cell) (w : World) (hT : TabR w A n l) (hx : x.k.wf) (hp : p < n) (hN : n ≤ 1000000) :
    Calls Try.prog 28 #[.slice A n c, .int .i64 p, .agg #[.bool x.u, .int .i64 x.k.pr, .int .u32 x.k.sr, .int .i64 x.k.sp, .int .u32 x.k.ds, .int .i64 x.k.dp, .int .i64 x.n]] w fun e w' => ∃ A' c', e = .returned (.slice A' n c') ∧ TabR w' A' n (l.set p x) ∧ Below w.heap.size w w' := by
  obtain ⟨W, hW⟩ : ∃ W, W = w.alloc (.cells #[.bool x.u, .int .i64 x.k.pr, .int .u32 x.k.sr, .int .i64 x.k.sp, .int .u32 x.k.ds, .int .i64 x.k.dp, .int .i64 x.n] 52) := ⟨_, rfl⟩
  have hbW : Below w.heap.size w W := by rw [hW]; exact (Below.refl _ _).alloc (Nat.le_refl _) _
  have B0 : Hid (BlkV W w.heap.size 52 [.bool x.u, .int .i64 x.k.pr, .int .u32 x.k.sr, .int .i64 x.k.sp, .int .u32 x.k.ds, .int .i64 x.k.dp, .int .i64 x.n]) := Lib.hid (by rw [hW]; exact BlkV.new _ _ _)
  have HT := Lib.hid (hT.below hbW)
  have hl := Lib.hid hT.len
  have HWF := Lib.hid hT.wf
  have HBW := Lib.hid hbW
  have hpz : (p : Int) < (n : Int) := by omega
  clear hT
  go_enter Try.func28, Try.ntmps28
  go_upto_region 1 with (fail)
  rw [← hW]
  clear hW hbW
  go_upto_region 2 with (at_builtin; refine wpList_app0 _ rfl (.tmp 8) (.tmp 9) 22 rfl W (by exact Below.refl _ _) 52 (.agg #[.bool false, .int .i64 0, .int .u32 0, .int .i64 0, .int .u32 0, .int .i64 0, .int .i64 0]) 7 56 Try.underlying22 infoC rfl (by decide) rfl A n c (tcells l) rfl (by exact HT.out.rd) (one_tcells _) (by unfold maxLen; omega) (by omega) ?_; intro A3 c3 w3 hown3 hb3 hg3 hat3)
  obtain ⟨g, rest, rfl, hgb, hTO⟩ := TabO.of_own hown3 (by omega) hl.out HWF.out
  have HTO := Lib.hid hTO
  have HGB := Lib.hid hgb
  obtain ⟨c0, c1, c2, c3', c4, c5, c6⟩ := cell7 (B0.out.below hb3)
  have HB3 := Lib.hid (bel_then HBW.out hb3)
  have hWs := HBW.out.size
  have HWS := Lib.hid hWs
  clear hown3 hb3 hg3 hat3 hTO hgb hWs
  obtain ⟨⟨f0, f1, f2, f3, f4, f5, f6⟩, g0, g1, g2, g3, g4, g5, g6⟩ := HTO.out.facts hp
  go_wp2_with fail
  go_ret
  obtain ⟨h1, h2⟩ := HTO.out.store hp x hx
  exact ⟨_, _, rfl, h1.rd, h2.bel (Nat.le_trans HWS.out HGB.out) HB3.out⟩
set_option maxHeartbeats 1000000 in
theorem rnew_yes (n : Nat) (w : World) (h : Idx.size n = true) :
    Calls Try.prog 9 #[.int .i64 n] w fun e w' => ∃ g, e = .returned (.tuple #[.slice (some ⟨g, 0, none⟩) n n, .int .i64 0]) ∧ TabR w' (some ⟨g, 0, none⟩) n (List.replicate n Idx.Cell.nil) ∧ Below w.heap.size w w' := by
  have hb := Idx.size_bd h
  have HP := Lib.hid (rsize_spec n w)
  rw [h] at HP
  clear h
  have HTO : Hid (TabO (w.alloc (.cells (tcells (List.replicate n Idx.Cell.nil)).toArray 52)) w.heap.size n (List.replicate n Idx.Cell.nil) []) := Lib.hid ⟨by simp, fun c hc => by rw [List.eq_of_mem_replicate hc]; exact nil_wf, by rw [List.append_nil]; exact BlkV.new _ _ _⟩
  go_enter Try.func9, Try.ntmps9
  go_wp2_with (first | ((with_reducible refine HP.out.mono ?_); rintro e w' ⟨rfl, rfl⟩) | (refine wpList_make7 rfl (.tmp 7) (.tmp 7) rfl n rfl rfl (by omega) ?_))
  go_ret2
  exact ⟨_, rfl, HTO.out.rd, bel_al2 (Below.refl _ _) _⟩
set_option maxHeartbeats 1000000 in
theorem rnew_no (n : Int) (w : World) (h : Idx.size n = false) :
    Calls Try.prog 9 #[.int .i64 n] w fun e w' => e = .returned (.tuple #[.slice none 0 0, .int .i64 1]) ∧ w = w' := by
  have HP := Lib.hid (rsize_spec n w)
  rw [h] at HP
  clear h
  go_enter Try.func9, Try.ntmps9
  go_wp2_with ((with_reducible refine HP.out.mono ?_); rintro e w' ⟨rfl, rfl⟩)
  go_ret2
  exact ⟨rfl, rfl⟩
theorem Idx.nil_dec (k : Idx.Key) (n : Int) : decide ((⟨false, k, n⟩ : Idx.Cell) = Idx.Cell.nil) = (decide (n = 0) && decide (k = Idx.Key.nil)) := by
  rw [Bool.eq_iff_iff]
  simp [Idx.Cell.nil, and_comm]
set_option maxRecDepth 8000 in
set_option maxHeartbeats 8000000 in
theorem rright_spec (A : Option Addr) (n c : Nat) (l : List Idx.Cell) (w : World) (hT : TabR w A n l) (hn : n ≤ 1000000) :
    Calls Try.prog 14 #[.slice A n c] w fun e w' => e = .returned (.bool (Idx.Right l)) ∧ Below w.heap.size w w' := by
  have HT := Lib.hid hT
  have hl := Lib.hid hT.len
  have HL := Lib.hid (rlen_spec A n c l w hT (by omega))
  have HP := Lib.hid (rsize_spec n w)
  clear hT
  cases hs : Idx.size n
  · have HR : Hid (Idx.Right l = false) := Lib.hid (Idx.right_no (.inl (by rw [hl.out]; exact hs)))
    rw [hs] at HP
    clear hs
    go_enter Try.func14, Try.ntmps14
    go_wp2_with (refine HP.out.mono ?_; rintro e w' ⟨rfl, rfl⟩)
    go_ret
    exact ⟨ret_bool (by rw [HR.out]), Below.refl _ _⟩
  · have HN := Lib.hid hs
    rw [hs] at HP
    have hml := Idx.many_le l
    rw [hl.out] at hml
    by_cases hm : Idx.many l = n
    · have HR : Hid (Idx.Right l = false) := Lib.hid (Idx.right_no (.inr (by rw [hl.out]; exact hm)))
      rw [hm] at HL
      clear hs hm
      go_enter Try.func14, Try.ntmps14
      go_wp2_with (first | ((with_reducible refine HP.out.mono ?_); rintro e w' ⟨rfl, rfl⟩) | ((with_reducible refine HL.out.mono ?_); rintro e w' ⟨rfl, rfl⟩))
      go_ret
      exact ⟨ret_bool (by rw [HR.out]), Below.refl _ _⟩
    · have HRY : Hid ((∀ i, i < n → Idx.fine l i = true) → Idx.Right l = true) := Lib.hid fun h => Idx.right_yes (by rw [hl.out]; exact hs) (by rw [hl.out]; omega) (by rw [hl.out]; exact h)
      have HFF : Hid (∀ k, ∃ p, Idx.fnd l k = some p) := Lib.hid fun k => by
        obtain ⟨e, he, hu⟩ := Idx.empty_of_many (l := l) (by rw [hl.out]; omega)
        exact Idx.fnd_of_stop he (Idx.stop_true.2 (.inl hu))
      have hmz : ((Idx.many l : Nat) : Int) < (n : Int) := by omega
      clear hs hm
      generalize Idx.many l = m at *
      have hmd : decide (n ≤ m) = false := by simp; omega
      go_enter Try.func14, Try.ntmps14
      go_wp2_with (first | ((with_reducible refine HP.out.mono ?_); rintro e w' ⟨rfl, rfl⟩) | ((with_reducible refine HL.out.mono ?_); rintro e w0 ⟨rfl, rfl⟩))
      clear HL HP hmz hml hmd
      go_loopg [3] n (fun gg i wx => ∃ j : Nat, j ≤ n ∧ n - j ≤ gg ∧ i = .int .i64 j ∧ Aside (Below w.heap.size w wx) ∧ Aside (∀ i, i < j → Idx.fine l i = true))
      case atStart => exact ⟨0, by omega, by omega, rfl, Below.refl _ _, fun i hi => by omega⟩
      case round =>
        obtain ⟨j, hj, hg, rfl, BW, BF⟩ := hrel
        by_cases hlt : j < n
        · have hltz : (j : Int) < (n : Int) := by omega
          have hTr := HT.out.below BW.out
          obtain ⟨b, off, rfl, hbs, e0, e1, e2, e3, e4, e5, e6⟩ := hTr.seven hlt
          have HTr := Lib.hid hTr
          have HKW := Lib.hid (hTr.keyf j)
          clear hTr
          have HFR : Hid (Idx.fine l j = false → Idx.Right l = false) := Lib.hid fun h => Idx.right_fail (by rw [hl.out]; exact hlt) h
          have HF0 := Lib.hid (Idx.fine_free (l := l) (i := j))
          have HF1 : Hid (∀ p, (Idx.at' l j).u = true → Idx.fnd l (Idx.at' l j).k = some p → Idx.fine l j = (decide (p = j) && Idx.right (Idx.at' l j).k)) := Lib.hid fun p => Idx.fine_used
          generalize hx : Idx.at' l j = x at *
          have HXX := Lib.hid hx
          clear hx
          obtain ⟨xu, k, xn⟩ := x
          dsimp only at e0 e1 e2 e3 e4 e5 e6 HKW HF0 HF1
          cases xu
          · have HF := Lib.hid (HF0.out rfl)
            rw [Idx.nil_dec] at HF
            clear HF0 HF1
            by_cases hz : xn = 0
            · subst hz
              cases hd : decide (k = Idx.Key.nil)
              · rw [hd] at HF
                have HE := Lib.hid (HFR.out (by rw [HF.out]; rfl))
                go_wp2
                go_ret
                exact ⟨ret_bool (by rw [HE.out]), BW.out⟩
              · rw [hd] at HF
                have HF' : Hid (Idx.fine l j = true) := Lib.hid (by rw [HF.out]; rfl)
                go_wp2
                go_roundg (n - (j + 1))
                case measure => omega
                case rel => exact ⟨j + 1, by omega, by omega, by go_num, BW.out, (show Aside _ from fun i hi => by by_cases e : i = j; (rw [e]; exact HF'.out); exact BF.out i (by omega))⟩
            · have HE := Lib.hid (HFR.out (by rw [HF.out]; simp [hz]))
              have hz1 : (xn == 0) = false := by simpa using hz
              have hz2 : (xn != 0) = true := by simpa using hz
              clear hz
              go_wp2
              go_ret
              exact ⟨ret_bool (by rw [HE.out]), BW.out⟩
          · obtain ⟨p, hp⟩ := HFF.out k
            have HF := Lib.hid (HF1.out p rfl hp)
            have HSK := Lib.hid (seek_spec (some ⟨b, off, none⟩) n c l k p wr HTr.out HKW.out hn hp)
            clear HF0 HF1 hp
            by_cases hpj : p = j
            · subst hpj
              have HKC : Hid (∀ w' : World, Below wr.heap.size wr w' → TabR w' (some ⟨b, off, none⟩) n l) := Lib.hid fun w' hb => HTr.out.below hb
              cases hr : Idx.right k
              · have HE : Hid (Idx.Right l = false) := Lib.hid (HFR.out (by rw [HF.out, hr]; simp))
                have HRR := Lib.hid (fun w1 => refRight_spec k w1)
                rw [hr] at HRR
                clear hr
                go_wp2_with fail
                refine HSK.out.mono ?_
                rintro e w2 ⟨rfl, hb2⟩
                have HB2 := Lib.hid (bel_then BW.out hb2)
                obtain ⟨b', off', e', hbs', e0', e1', e2', e3', e4', e5', e6'⟩ := (HKC.out w2 hb2).seven hlt
                injection e' with e'
                injection e' with e1'' e2''
                subst e1'' e2''
                rw [HXX.out] at e0' e1' e2' e3' e4' e5' e6'
                dsimp only at e0' e1' e2' e3' e4' e5' e6'
                clear e0 e1 e2 e3 e4 e5 e6 hb2
                go_wp2_with fail
                refine (HRR.out w2).mono ?_
                rintro e w3 ⟨rfl, hb3⟩
                go_wp2_with fail
                go_ret
                exact ⟨ret_bool (by rw [HE.out]), bel_then HB2.out hb3⟩
              · have HF' : Hid (Idx.fine l p = true) := Lib.hid (by rw [HF.out, hr]; simp)
                have HRR := Lib.hid (fun w1 => refRight_spec k w1)
                rw [hr] at HRR
                clear hr
                go_wp2_with fail
                refine HSK.out.mono ?_
                rintro e w2 ⟨rfl, hb2⟩
                have HB2 := Lib.hid (bel_then BW.out hb2)
                obtain ⟨b', off', e', hbs', e0', e1', e2', e3', e4', e5', e6'⟩ := (HKC.out w2 hb2).seven hlt
                injection e' with e'
                injection e' with e1'' e2''
                subst e1'' e2''
                rw [HXX.out] at e0' e1' e2' e3' e4' e5' e6'
                dsimp only at e0' e1' e2' e3' e4' e5' e6'
                clear e0 e1 e2 e3 e4 e5 e6 
                go_wp2_with fail
                refine (HRR.out w2).mono ?_
                rintro e w3 ⟨rfl, hb3⟩
                have HB3 := Lib.hid (bel_then HB2.out hb3)
                obtain ⟨b', off', e', hbs', e0, e1, e2, e3, e4, e5, e6⟩ := (HKC.out w3 (bel_then hb2 hb3)).seven hlt
                injection e' with e'
                injection e' with e1'' e2''
                subst e1'' e2''
                rw [HXX.out] at e0 e1 e2 e3 e4 e5 e6
                dsimp only at e0 e1 e2 e3 e4 e5 e6
                clear e0' e1' e2' e3' e4' e5' e6' hb2 hb3
                go_wp2_with fail
                go_roundg (n - (p + 1))
                case measure => omega
                case rel => exact ⟨p + 1, by omega, by omega, by go_num, HB3.out, (show Aside _ from fun i hi => by by_cases e : i = p; (rw [e]; exact HF'.out); exact BF.out i (by omega))⟩
            · have HE : Hid (Idx.Right l = false) := Lib.hid (HFR.out (by rw [HF.out]; simp [hpj]))
              have hpz : ((p : Int) == (j : Int)) = false := by simpa using (by omega : (p : Int) ≠ j)
              have hpz2 : ((p : Int) != (j : Int)) = true := by simpa using (by omega : (p : Int) ≠ j)
              clear hpj
              go_wp2_with fail
              refine HSK.out.mono ?_
              rintro e w2 ⟨rfl, hb2⟩
              go_wp2_with fail
              go_ret
              exact ⟨ret_bool (by rw [HE.out]), bel_then BW.out hb2⟩
        · have hltz : ¬ (j : Int) < (n : Int) := by omega
          have HE := Lib.hid (HRY.out (fun i hi => BF.out i (by omega)))
          go_wp2
          go_ret
          exact ⟨ret_bool (by rw [HE.out]), BW.out⟩
end Go.Proofs.Ytdfbfhejigifoaa
