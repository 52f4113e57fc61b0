/- The walk of container/heap.up over the alarms. -/
import Derived.Test.YtdboehogkmidbaaWhOps
namespace Go.Proofs.Ytdboehogkmidbaa
open Go.RowKit
set_option linter.unusedVariables false
set_option linter.unusedSimpArgs false
def wptr (L : Loc) : Value := .pointer (some ⟨L.gw, 0, none⟩)
def wif (L : Loc) : Value := .iface 88 (.pointer (some ⟨L.gw, 0, none⟩))
theorem par_int (j : Nat) : Int.tdiv ((j : Int) - 1) 2 = (Wh.par j : Nat) := by
  unfold Wh.par
  cases j with
  | zero => rfl
  | succ j =>
    rw [show ((j + 1 : Nat) : Int) - 1 = (j : Int) by omega]
    simp
set_option maxRecDepth 8000 in
set_option maxHeartbeats 4000000 in
theorem hup_spec (f j : Nat) (L : Loc) (c : Nat) (es : List Mi.E) (ck : Nat) (l : List Wh.Al) (now : Int) (w : World) (h : WM w L c es ck l now) (hj : j < l.length) (hf : j < f) :
    Calls Try.prog 42 #[.iface 88 (.pointer (some ⟨L.gw, 0, none⟩)), .int .i64 j] w fun e w' => e = .returned (.tuple #[]) ∧ Wgo w L (Wh.up f l j) now w' := by
  have hs := h.sm
  obtain ⟨gw, hgw⟩ : ∃ gw, gw = L.gw := ⟨_, rfl⟩
  rw [← hgw]
  have ML : ∀ W : World, (method 195 88 (.pointer (some ⟨gw, 0, none⟩)) "Less").run Try.prog W = .ok (61, .pointer (some ⟨gw, 0, none⟩)) W := fun W => by kernel_rfl
  have MS : ∀ W : World, (method 195 88 (.pointer (some ⟨gw, 0, none⟩)) "Swap").run Try.prog W = .ok (64, .pointer (some ⟨gw, 0, none⟩)) W := fun W => by kernel_rfl
  obtain ⟨R, hR⟩ : ∃ R, R = Wh.up f l j := ⟨_, rfl⟩
  rw [← hR]
  have H := Lib.hid h
  have HR := Lib.hid hR
  have HG := Lib.hid hgw
  clear h hR hgw
  go_enter Try.func42, Try.ntmps42
  go_wp2_with fail
  go_loopg [1] f (fun gg s1 wx => ∃ (j' : Nat) (L' : Loc) (c' : Nat) (es' : List Mi.E) (ck' : Nat) (l' : List Wh.Al), j' < gg ∧ j' < l'.length ∧ l'.length ≤ 256 ∧ s1 = .int .i64 j' ∧ Aside (WM wx L' c' es' ck' l' now) ∧ Aside (Step w wx L L') ∧ Aside (Wh.up gg l' j' = R))
  case atStart => exact ⟨j, L, c, es, ck, l, hf, hj, hs, rfl, H.out, Step.refl _ _, HR.out.symm⟩
  case round =>
    obtain ⟨j', L', c', es', ck', l', hg', hj', hs', rfl, HW, HS, HU⟩ := hrel
    have hp := par_int j'
    have hLg : L'.gw = gw := HS.out.gw.trans HG.out.symm
    obtain ⟨gk', rfl⟩ : ∃ n, gk = n + 1 := ⟨gk - 1, by omega⟩
    obtain ⟨i, hi⟩ : ∃ i, i = Wh.par j' := ⟨_, rfl⟩
    have hij : i ≤ j' := by rw [hi]; unfold Wh.par; omega
    rw [← hi] at hp
    have HI := Lib.hid hi
    clear hi
    by_cases hz : i = j'
    · have hzz : (i : Int) = (j' : Int) := by rw [hz]
      have HZ := Lib.hid hz
      clear hz
      go_wp2_with fail
      go_end0
      have e : l' = R := by
        rw [← HU.out]
        unfold Wh.up
        rw [if_pos (Or.inl (HI.out.symm.trans HZ.out))]
      exact ⟨rfl, e ▸ ⟨L', c', es', ck', HW.out, HS.out⟩⟩
    · have hzz : (i : Int) ≠ (j' : Int) := by omega
      have hlt : i < j' := by omega
      have HL := Lib.hid (hLg ▸ HW.out.less_wm hj' (show i < l'.length by omega))
      go_wp2_with fail
      refine HL.out.mono ?_
      rintro e w1 ⟨rfl, hb1⟩
      by_cases hc : Wh.lt (Wh.al l' j') (Wh.al l' i)
      · rw [show decide (Wh.lt (Wh.al l' j') (Wh.al l' i)) = true from decide_eq_true hc]
        have HC := Lib.hid hc
        clear hc
        go_wp2_with fail
        refine ((hLg ▸ (HW.out.below hb1).swap_wm (show i < l'.length by omega) hj')).mono ?_
        rintro e w2 ⟨rfl, L2, c2, es2, ck2, HW2, HS2⟩
        have HW2 := Lib.hid HW2
        have HS2 := Lib.hid ((HS.out.trans (WM.step_below hb1)).trans HS2)
        have HU2 : Hid (Wh.up gk' (Wh.sw l' i j') i = R) := Lib.hid (by
          rw [← HU.out]
          conv => rhs; unfold Wh.up
          rw [if_neg (by rw [← HI.out]; rintro (h1 | h1); exact absurd h1 (by omega); exact h1 HC.out), ← HI.out])
        clear hb1 HW HS HU HI HC HL
        go_wp2_with fail
        go_roundg gk'
        case measure => omega
        case rel => exact ⟨i, L2, c2, es2, ck2, Wh.sw l' i j', by omega, by rw [Wh.sw_len]; omega, by rw [Wh.sw_len]; omega, rfl, HW2.out, HS2.out, HU2.out⟩
      · rw [show decide (Wh.lt (Wh.al l' j') (Wh.al l' i)) = false from decide_eq_false hc]
        have HC := Lib.hid hc
        clear hc
        go_wp2_with fail
        go_end0
        have e : l' = R := by
          rw [← HU.out]
          unfold Wh.up
          rw [if_pos (Or.inr (by rw [← HI.out]; exact HC.out))]
        exact ⟨rfl, e ▸ ⟨L', c', es', ck', HW.out.below hb1, HS.out.trans (WM.step_below hb1)⟩⟩
end Go.Proofs.Ytdboehogkmidbaa
