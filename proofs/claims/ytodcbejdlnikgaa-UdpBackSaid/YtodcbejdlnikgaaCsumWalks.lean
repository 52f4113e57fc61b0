/- The walks of package csum. -/
import Derived.Test.YtodcbejdlnikgaaChecked
import Derived.Test.YtodcbejdlnikgaaBase
import Derived.Test.YtodcbejdlnikgaaCsumPlain
namespace Go.Proofs.Ytodcbejdlnikgaa
open Go.RowKit
set_option linter.unusedVariables false
attribute [local go_sem] u64_low16 u32_low16 u16_not u16_signed u64_of_u16
set_option maxHeartbeats 400000 in
theorem csum_fold (n : Int) (w : World) (h0 : 0 ≤ n) (h1 : n < 18446744073709551616) :
    Calls Try.prog 32 #[.int .u64 n] w fun e w' => e = .returned (.int .u16 (Csum.fold n)) ∧ w = w' := by
  go_enter Try.func32, Try.ntmps32
  go_wp2
  go_loop [0] (fun t => ∃ m : Int, 0 ≤ m ∧ m < 18446744073709551616 ∧ Hid (Csum.fold m = Csum.fold n) ∧ t = .int .u64 m) (fun t => (intOf t).toNat)
  case atStart => exact ⟨n, h0, h1, (rfl : Csum.fold n = Csum.fold n), rfl⟩
  case round =>
    obtain ⟨m, hm0, hm1, hf, rfl⟩ := hrel
    go_wp2
    · have hm : (m / 65536 != 0) = true := by assumption
      rw [bne_iff_ne] at hm
      go_round
      case rel =>
        refine ⟨m % 65536 + m / 65536, by omega, by omega, ?_, rfl⟩
        show Csum.fold _ = _
        rw [Csum.fold_step (by omega)]; exact hf.out
      case measure =>
        simp only [intOf]; omega
    · have hm : (m / 65536 != 0) = false := by assumption
      rw [bne_eq_false_iff_eq] at hm
      go_ret
      exact ⟨ret_int (by rw [← hf.out, Csum.fold_small hm0 (by omega), IntKind.wrap_u16]; omega), rfl⟩
set_option maxHeartbeats 400000 in
theorem csum_sum (A : Option Addr) (n c : Nat) (l : List Int) (w : World) (h : Rd w 1 A n (bs l)) (hb : isB l) (hn : n ≤ 140737488355328) :
    Calls Try.prog 16 #[.slice A n c] w fun e w' => e = .returned (.int .u16 (Csum.sum l)) ∧ w = w' := by
  have hl := h.blen
  have H := Lib.hid hl
  go_enter Try.func16, Try.ntmps16
  go_wp2
  go_loop [3, 8] (fun t i => ∃ k : Nat, k ≤ n ∧ i = .int .i64 k ∧ t = .int .u64 (Csum.tot true (l.take k))) (fun _ i => n - (intOf i).toNat)
  case atStart => exact ⟨0, Nat.zero_le _, rfl, rfl⟩
  case round =>
    obtain ⟨k, hk, rfl, rfl⟩ := hrel
    have ht := Csum.tot_nonneg true (l.take k) (fun x hx => hb x (List.mem_of_mem_take hx))
    have hlt' : (l.take k).length ≤ k := List.length_take_le _ _
    obtain ⟨ht0, ht1⟩ := ht
    by_cases hlt : k < n
    · obtain ⟨b, off, rfl, hbl, hcell⟩ := h.byte hlt
      obtain ⟨g0, g1⟩ := hb.getD k
      have hs := Csum.tot_snoc l k (by omega)
      rw [List.getD_eq_getElem?_getD] at g0 g1 hs
      have HS := Lib.hid hs
      clear hs hl h
      go_wp2
      · have hp : ((k : Int) % 2 == 0) = true := by assumption
        rw [beq_iff_eq] at hp
        go_round
        case rel => exact ⟨k + 1, by omega, by go_num, val_int (by rw [HS.out, if_pos (by omega)]; first | omega | (simp only [IntKind.wrap_u64]; omega))⟩
        case measure => simp [intOf]; omega
      · have hp : ((k : Int) % 2 == 0) = false := by assumption
        rw [beq_eq_false_iff_ne] at hp
        go_round
        case rel => exact ⟨k + 1, by omega, by go_num, val_int (by rw [HS.out, if_neg (by omega)])⟩
        case measure => simp [intOf]; omega
    · have hk' : k = n := by omega
      have hr : Csum.fold (Csum.tot true (l.take k)) = Csum.sum l := by rw [List.take_of_length_le (by omega)]; rfl
      have HR := Lib.hid hr
      clear hr hl hk' h
      go_wp2_with (go_at_call 32; refine (csum_fold _ _ (by omega) (by omega)).mono ?_; rintro e w' ⟨rfl, rfl⟩)
      go_ret
      exact ⟨ret_int HR.out, rfl⟩
set_option maxHeartbeats 400000 in
theorem csum_join (a b : Int) (w : World) (ha0 : 0 ≤ a) (ha1 : a ≤ 65535) (hb0 : 0 ≤ b) (hb1 : b ≤ 65535) :
    Calls Try.prog 17 #[.int .u16 a, .int .u16 b] w fun e w' => e = .returned (.int .u16 (Csum.fold (a + b))) ∧ w = w' := by
  go_enter Try.func17, Try.ntmps17
  go_wp2_with (go_at_call 32; refine (csum_fold _ _ (by omega) (by omega)).mono ?_; rintro e w' ⟨rfl, rfl⟩)
  go_ret
  exact ⟨rfl, rfl⟩
set_option maxHeartbeats 400000 in
theorem csum_of (A : Option Addr) (n c : Nat) (l : List Int) (w : World) (h : Rd w 1 A n (bs l)) (hb : isB l) (hn : n ≤ 140737488355328) :
    Calls Try.prog 14 #[.slice A n c] w fun e w' => e = .returned (.int .u16 (65535 - Csum.sum l)) ∧ w = w' := by
  obtain ⟨h0, h1⟩ : 0 ≤ Csum.sum l ∧ Csum.sum l ≤ 65535 := Csum.fold_bd (Csum.tot_nonneg true l hb).1
  go_enter Try.func14, Try.ntmps14
  go_wp2_with (go_at_call 16; refine (csum_sum _ _ _ _ _ h hb hn).mono ?_; rintro e w' ⟨rfl, rfl⟩)
  go_ret
  exact ⟨ret_int (by omega), rfl⟩
set_option maxHeartbeats 400000 in
theorem csum_mend (a b d : Int) (w : World) (ha0 : 0 ≤ a) (ha1 : a ≤ 65535) (hb0 : 0 ≤ b) (hb1 : b ≤ 65535) (hd0 : 0 ≤ d) (hd1 : d ≤ 65535) :
    Calls Try.prog 15 #[.int .u16 a, .int .u16 b, .int .u16 d] w fun e w' => e = .returned (.int .u16 (65535 - Csum.fold (65535 - a + (65535 - b) + d))) ∧ w = w' := by
  have e : Csum.fold (65535 - a % 65536 + (65535 - b % 65536) + d) = Csum.fold (65535 - a + (65535 - b) + d) := by rw [show a % 65536 = a from by omega, show b % 65536 = b from by omega]
  obtain ⟨f0, f1⟩ := Csum.fold_bd (n := 65535 - a + (65535 - b) + d) (by omega)
  have E := Lib.hid e
  clear e
  go_enter Try.func15, Try.ntmps15
  go_wp2_with fail
  refine (csum_fold _ _ (by omega) (by omega)).mono ?_
  rintro e w' ⟨rfl, rfl⟩
  rw [E.out]
  go_wp2
  go_ret
  exact ⟨ret_int (by omega), rfl⟩
set_option maxHeartbeats 400000 in
theorem csum_pseudo (a b p q : Int) (w : World) (ha0 : 0 ≤ a) (ha1 : a ≤ 4294967295) (hb0 : 0 ≤ b) (hb1 : b ≤ 4294967295) :
    Calls Try.prog 22 #[.int .u32 a, .int .u32 b, .int .i64 p, .int .i64 q] w fun e w' => e = .returned (.int .u16 (Csum.fold (a / 65536 + a % 65536 + b / 65536 + b % 65536 + p % 65536 + q % 65536))) ∧ w = w' := by
  go_enter Try.func22, Try.ntmps22
  go_wp2_with (go_at_call 32; refine (csum_fold _ _ (by omega) (by omega)).mono ?_; rintro e w' ⟨rfl, rfl⟩)
  go_ret
  exact ⟨rfl, rfl⟩
/-! ### the reference -/
set_option maxHeartbeats 400000 in
theorem rcsum_join (a b : Int) (w : World) (ha0 : 0 ≤ a) (ha1 : a ≤ 65535) (hb0 : 0 ≤ b) (hb1 : b ≤ 65535) :
    Calls Try.prog 20 #[.int .u16 a, .int .u16 b] w fun e w' => e = .returned (.int .u16 (Csum.fold (a + b))) ∧ w = w' := by
  go_enter Try.func20, Try.ntmps20
  go_wp2
  all_goals
    go_ret
    exact ⟨ret_int (by unfold Csum.fold; first | omega | (simp only [IntKind.wrap_u16]; omega)), rfl⟩
end Go.Proofs.Ytodcbejdlnikgaa
