/- The walk of a node's find. -/
import Derived.Test.YtdocojhjknhjnaaRoutePut
namespace Go.Proofs.Ytdocojhjknhjnaa
open Go.RowKit
set_option linter.unusedVariables false
open Route in
set_option maxHeartbeats 4000000 in
theorem findn_spec (g0 : Nat) (a : Int) (w : World) (base : Nat) (f : Nat → Int → Option Nat) (rt : Nat → Int → Int) (h : Tree w base 59 f rt) (h0 : f 0 0 = some g0) (a0 : 0 ≤ a) (a1 : a ≤ 4294967295) :
    Calls Try.prog 36 #[.pointer (some ⟨g0, 0, none⟩), .int .u32 a] w fun e w' => e = .returned (.int .i64 (scanF rt a 33)) ∧ Below w.heap.size w w' := by
  have hx0 : a / 2 ^ (32 - 0) = 0 := by
    show a / 2 ^ 32 = 0
    omega
  have H := Lib.hid h
  have T0 : Hid (Value.pointer (some ⟨g0, 0, none⟩) = .pointer (ptrO (f 0 (a / 2 ^ (32 - 0))))) := by
    show _ = _
    rw [hx0, h0]; rfl
  clear h hx0 h0
  go_enter Try.func36, Try.ntmps36
  go_wp2
  go_loopw [0, 5, 6] (fun p b i wr => ∃ d : Nat, d ≤ 32 ∧ i = .int .i64 d ∧ Hid (p = .pointer (ptrO (f d (a / 2 ^ (32 - d))))) ∧ b = .int .i64 (scanF rt a d) ∧ Below w.heap.size w wr) (fun _ _ i _ => 33 - (intOf i).toNat)
  case atStart => exact ⟨0, by omega, rfl, T0, rfl, Below.refl _ _⟩
  case round =>
    obtain ⟨d, hd, rfl, HP, rfl, hbel⟩ := hrel
    have ht := H.out.below hbel
    have hp := HP.out
    cases hf : f d (a / 2 ^ (32 - d)) with
    | none =>
      rw [hf] at hp
      subst hp
      have hr := ht.scan_rest a hd hf (33 - d) (by omega)
      rw [show d + (33 - d) = 33 by omega] at hr
      have HR := Lib.hid hr
      clear hf ht hr
      simp only [ptrO]
      go_wp2
      go_ret
      exact ⟨ret_int HR.out.symm, hbel⟩
    | some g =>
      rw [hf] at hp
      subst hp
      obtain ⟨q0, q1, q2⟩ := ht.cells hf
      have hglt := ht.lt hf
      have hsc : scanF rt a (d + 1) = if 0 ≤ rt d (a / 2 ^ (32 - d)) then rt d (a / 2 ^ (32 - d)) else scanF rt a d := rfl
      generalize scanF rt a d = sc at hsc ⊢
      simp only [ptrO]
      by_cases hd32 : d = 32
      · subst hd32
        clear q1 q2 hf ht
        by_cases hrt : 0 ≤ rt 32 (a / 2 ^ (32 - 32))
        · rw [if_pos hrt] at hsc
          have HS := Lib.hid hsc
          clear hsc
          generalize rt 32 (a / 2 ^ (32 - 32)) = v at q0 hrt HS
          go_wp2
          go_ret
          exact ⟨ret_int HS.out.symm, hbel⟩
        · rw [if_neg hrt] at hsc
          have HS := Lib.hid hsc
          clear hsc
          generalize rt 32 (a / 2 ^ (32 - 32)) = v at q0 hrt HS
          go_wp2
          go_ret
          exact ⟨ret_int HS.out.symm, hbel⟩
      · have hdi : ((d : Int) == 32) = false := by simp; omega
        have hway := way_next a d (by omega)
        have hk1 : 32 - (d + 1) = 31 - d := by omega
        have hb01 : a / 2 ^ (31 - d) % 2 = 0 ∨ a / 2 ^ (31 - d) % 2 = 1 := by omega
        have hbit : ∀ q, Calls Try.prog 41 #[.int .u32 a, .int .i64 d] (wr.drewN q) (fun e w'' => e = .returned (.int .i64 (a / 2 ^ (31 - d) % 2)) ∧ ∃ k, w'' = wr.drewN k) := fun q =>
          (bit_spec a d (wr.drewN q) (by omega) a0 a1).mono fun e w1 ⟨h, h2⟩ => ⟨h, q, h2.symm⟩
        have HS := Lib.hid hsc
        by_cases hrt : 0 ≤ rt d (a / 2 ^ (32 - d))
        all_goals
          first
          | rw [if_pos hrt] at hsc
          | rw [if_neg hrt] at hsc
          have HS := Lib.hid hsc
          clear hsc
          generalize rt d (a / 2 ^ (32 - d)) = v at q0 hrt HS
          rcases hb01 with e | e
          all_goals
            rw [e] at hway hbit
            have HB := Lib.hid hbit
            have HW := Lib.hid hway
            clear hbit hway e hf ht
            go_wp2_with fail
            go_quiet ((with_reducible exact HB.out _))
            go_wp2
            go_roundw
            case rel =>
              refine ⟨d + 1, by omega, by go_num, Lib.hid ?_, ?_, below_drewN hbel _⟩
              · rw [hk1, HW.out]
                first | rfl | (simp; rfl)
              · rw [HS.out]
            case measure => simp [intOf]; omega
end Go.Proofs.Ytdocojhjknhjnaa
