/- The walk of the reference's Same. -/
import Derived.Test.YtdfbfhejigifoaaIdxDelW
import Derived.Test.YtdfbfhejigifoaaIdxFacts
namespace Go.Proofs.Ytdfbfhejigifoaa
open Go.RowKit
set_option linter.unusedVariables false
attribute [local go_sem ↓] eq_cell
theorem Idx.ne_at {l m : List Idx.Cell} {i : Nat} (hi : i < l.length) (h : Idx.at' l i ≠ Idx.at' m i) : l ≠ m := by rintro rfl; exact h rfl
theorem len_ne {l m : List Idx.Cell} (h : l.length ≠ m.length) : l ≠ m := by rintro rfl; exact h rfl
set_option maxHeartbeats 4000000 in
theorem same_spec (A : Option Addr) (n c : Nat) (l : List Idx.Cell) (B : Option Addr) (m d : Nat) (q : List Idx.Cell) (w : World) (hT : TabR w A n l) (hQ : TabR w B m q) (hn : n ≤ 1000000) (hm : m ≤ 1000000) :
    Calls Try.prog 10 #[.slice A n c, .slice B m d] w fun e w' => e = .returned (.bool (decide (l = q))) ∧ Below w.heap.size w w' := by
  have HT := Lib.hid hT
  have HQ := Lib.hid hQ
  have hl := Lib.hid hT.len
  have hq := Lib.hid hQ.len
  clear hT hQ
  by_cases hnm : n = m
  · subst hnm
    go_enter Try.func10, Try.ntmps10
    go_wp2
    go_loopg [5] n (fun gg i wx => ∃ j : Nat, j ≤ n ∧ n - j ≤ gg ∧ i = .int .i64 j ∧ Aside (Below w.heap.size w wx) ∧ Aside (∀ i, i < j → Idx.at' l i = Idx.at' q i))
    case atStart => exact ⟨0, by omega, by omega, rfl, Below.refl _ _, fun i hi => by omega⟩
    case round =>
      obtain ⟨j, hj, hg, rfl, BW, BF⟩ := hrel
      by_cases hlt : j < n
      · have hltz : (j : Int) < (n : Int) := by omega
        obtain ⟨b, off, rfl, hbs, e0, e1, e2, e3, e4, e5, e6⟩ := (HT.out.below BW.out).seven hlt
        obtain ⟨b', off', rfl, hbs', f0, f1, f2, f3, f4, f5, f6⟩ := (HQ.out.below BW.out).seven hlt
        have HNE := Lib.hid (Idx.ne_at (l := l) (m := q) (i := j) (by rw [hl.out]; exact hlt))
        generalize hx : Idx.at' l j = x at *
        generalize hy : Idx.at' q j = y at *
        have HX := Lib.hid hx
        have HY := Lib.hid hy
        clear hx hy
        cases hd : decide (x = y)
        · have HE : Hid (decide (l = q) = false) := Lib.hid (by simpa using HNE.out (by simpa using hd))
          go_wp2_with fail
          go_quiet (fail)
          go_wp2_with fail
          go_ret
          exact ⟨ret_bool (by rw [HE.out]), bel_drN2 BW.out _⟩
        · have HXY : Hid (x = y) := Lib.hid (by simpa using hd)
          go_wp2_with fail
          go_quiet (fail)
          go_wp2_with fail
          go_roundg (n - (j + 1))
          case measure => omega
          case rel => exact ⟨j + 1, by omega, by omega, by go_num, bel_drN2 BW.out _, (show Aside _ from fun i hi => by by_cases e : i = j; (rw [e, HX.out, HY.out, HXY.out]); exact BF.out i (by omega))⟩
      · have hltz : ¬ (j : Int) < (n : Int) := by omega
        have HE : Hid (decide (l = q) = true) := Lib.hid (by simpa using Idx.ext_at (by rw [hl.out, hq.out]) (fun i hi => BF.out i (by rw [hl.out] at hi; omega)))
        go_wp2_with fail
        go_ret
        exact ⟨ret_bool (by rw [HE.out]), BW.out⟩
  · have HE : Hid (decide (l = q) = false) := Lib.hid (by simpa using len_ne (by rw [hl.out, hq.out]; exact hnm))
    have hz : ((n : Int) == (m : Int)) = false := by simpa using (by omega : (n : Int) ≠ m)
    have hz2 : ((n : Int) != (m : Int)) = true := by simpa using (by omega : (n : Int) ≠ m)
    clear hnm
    go_enter Try.func10, Try.ntmps10
    go_wp2
    go_ret
    exact ⟨ret_bool (by rw [HE.out]), Below.refl _ _⟩
end Go.Proofs.Ytdfbfhejigifoaa
