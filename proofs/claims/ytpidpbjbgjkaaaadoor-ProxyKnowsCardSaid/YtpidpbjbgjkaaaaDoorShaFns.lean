/- The walks of the reference's small functions of sha. -/
import Derived.Test.YtpidpbjbgjkaaaaDoorShaLeaves
namespace Go.Proofs.YtpidpbjbgjkaaaaDoor
open Go.RowKit
set_option linter.unusedVariables false
namespace Sha
theorem nat_ch (x y z : Nat) (hx : x < 2 ^ 32) : (x &&& y) ||| ((4294967295 - x) &&& z) = (x &&& y) ^^^ ((4294967295 - x) &&& z) := by
  apply Nat.eq_of_testBit_eq
  intro i
  have h := Nat.testBit_two_pow_sub_succ hx i
  rw [show (2 ^ 32 - (x + 1)) = 4294967295 - x by omega] at h
  simp only [Nat.testBit_or, Nat.testBit_xor, Nat.testBit_and, h]
  cases x.testBit i <;> simp
theorem nat_maj (x y z : Nat) : (x &&& y ||| x &&& z) ||| y &&& z = (x &&& y ^^^ x &&& z) ^^^ y &&& z := by
  apply Nat.eq_of_testBit_eq
  intro i
  simp only [Nat.testBit_or, Nat.testBit_xor, Nat.testBit_and]
  cases x.testBit i <;> cases y.testBit i <;> cases z.testBit i <;> rfl
theorem ch_or {x y z : Int} (x0 : 0 ≤ x) (x1 : x ≤ 4294967295) (y0 : 0 ≤ y) (y1 : y ≤ 4294967295) (z0 : 0 ≤ z) (z1 : z ≤ 4294967295) :
    bits .or .u32 (bits .and .u32 x y) (bits .and .u32 (4294967295 - x) z) = ch x y z := by
  obtain ⟨a, rfl⟩ := Int.eq_ofNat_of_zero_le x0
  obtain ⟨b, rfl⟩ := Int.eq_ofNat_of_zero_le y0
  obtain ⟨c, rfl⟩ := Int.eq_ofNat_of_zero_le z0
  unfold ch
  have e : (4294967295 : Int) - (a : Int) = ((4294967295 - a : Nat) : Int) := by omega
  have l1 : a &&& b < 4294967296 := Nat.lt_of_le_of_lt Nat.and_le_left (by omega)
  have l2 : (4294967295 - a) &&& c < 4294967296 := Nat.lt_of_le_of_lt Nat.and_le_left (by omega)
  rw [e, u32_and_nat _ _ (by omega) (by omega), u32_and_nat _ _ (by omega) (by omega), u32_or_nat _ _ l1 l2, u32_xor_nat _ _ l1 l2, nat_ch _ _ _ (by omega)]
theorem maj_or {x y z : Int} (x0 : 0 ≤ x) (x1 : x ≤ 4294967295) (y0 : 0 ≤ y) (y1 : y ≤ 4294967295) (z0 : 0 ≤ z) (z1 : z ≤ 4294967295) :
    bits .or .u32 (bits .or .u32 (bits .and .u32 x y) (bits .and .u32 x z)) (bits .and .u32 y z) = maj x y z := by
  obtain ⟨a, rfl⟩ := Int.eq_ofNat_of_zero_le x0
  obtain ⟨b, rfl⟩ := Int.eq_ofNat_of_zero_le y0
  obtain ⟨c, rfl⟩ := Int.eq_ofNat_of_zero_le z0
  unfold maj xor3
  have l1 : a &&& b < 4294967296 := Nat.lt_of_le_of_lt Nat.and_le_left (by omega)
  have l2 : a &&& c < 4294967296 := Nat.lt_of_le_of_lt Nat.and_le_left (by omega)
  have l3 : b &&& c < 4294967296 := Nat.lt_of_le_of_lt Nat.and_le_left (by omega)
  have l4 : a &&& b ||| a &&& c < 4294967296 := Nat.or_lt_two_pow (n := 32) l1 l2
  have l5 : a &&& b ^^^ a &&& c < 4294967296 := Nat.xor_lt_two_pow (n := 32) l1 l2
  rw [u32_and_nat _ _ (by omega) (by omega), u32_and_nat _ _ (by omega) (by omega), u32_and_nat _ _ (by omega) (by omega), u32_or_nat _ _ l1 l2, u32_xor_nat _ _ l1 l2, u32_or_nat _ _ l4 l3, u32_xor_nat _ _ l5 l3, nat_maj]
end Sha
theorem rch_spec (x y z : Int) (w : World) (x0 : 0 ≤ x) (x1 : x ≤ 4294967295) (y0 : 0 ≤ y) (y1 : y ≤ 4294967295) (z0 : 0 ≤ z) (z1 : z ≤ 4294967295) :
    Calls Tryd.prog 84 #[.int .u32 x, .int .u32 y, .int .u32 z] w fun e w' => e = .returned (.int .u32 (Sha.ch x y z)) ∧ w = w' := by
  have h := Lib.hid (Sha.ch_or x0 x1 y0 y1 z0 z1)
  go_enter Tryd.func84, Tryd.ntmps84
  go_wp2
  go_ret
  exact ⟨ret_int h.out, rfl⟩
theorem rmaj_spec (x y z : Int) (w : World) (x0 : 0 ≤ x) (x1 : x ≤ 4294967295) (y0 : 0 ≤ y) (y1 : y ≤ 4294967295) (z0 : 0 ≤ z) (z1 : z ≤ 4294967295) :
    Calls Tryd.prog 86 #[.int .u32 x, .int .u32 y, .int .u32 z] w fun e w' => e = .returned (.int .u32 (Sha.maj x y z)) ∧ w = w' := by
  have h := Lib.hid (Sha.maj_or x0 x1 y0 y1 z0 z1)
  go_enter Tryd.func86, Tryd.ntmps86
  go_wp2
  go_ret
  exact ⟨ret_int h.out, rfl⟩
theorem rbig0_spec (x : Int) (w : World) (h0 : 0 ≤ x) (h1 : x ≤ 4294967295) : Calls Tryd.prog 85 #[.int .u32 x] w fun e w' => e = .returned (.int .u32 (Sha.b0 x)) ∧ w = w' := by
  go_enter Tryd.func85, Tryd.ntmps85
  go_wp2_with fail
  refine (rrotr_2 x _ h0 h1).mono ?_
  rintro e w' ⟨rfl, rfl⟩
  go_wp2_with fail
  refine (rrotr_13 x _ h0 h1).mono ?_
  rintro e w' ⟨rfl, rfl⟩
  go_wp2_with fail
  refine (rrotr_22 x _ h0 h1).mono ?_
  rintro e w' ⟨rfl, rfl⟩
  go_wp2
  go_ret
  exact ⟨rfl, rfl⟩
theorem rbig1_spec (x : Int) (w : World) (h0 : 0 ≤ x) (h1 : x ≤ 4294967295) : Calls Tryd.prog 83 #[.int .u32 x] w fun e w' => e = .returned (.int .u32 (Sha.b1 x)) ∧ w = w' := by
  go_enter Tryd.func83, Tryd.ntmps83
  go_wp2_with fail
  refine (rrotr_6 x _ h0 h1).mono ?_
  rintro e w' ⟨rfl, rfl⟩
  go_wp2_with fail
  refine (rrotr_11 x _ h0 h1).mono ?_
  rintro e w' ⟨rfl, rfl⟩
  go_wp2_with fail
  refine (rrotr_25 x _ h0 h1).mono ?_
  rintro e w' ⟨rfl, rfl⟩
  go_wp2
  go_ret
  exact ⟨rfl, rfl⟩
theorem rsmall0_spec (x : Int) (w : World) (h0 : 0 ≤ x) (h1 : x ≤ 4294967295) : Calls Tryd.prog 82 #[.int .u32 x] w fun e w' => e = .returned (.int .u32 (Sha.s0 x)) ∧ w = w' := by
  go_enter Tryd.func82, Tryd.ntmps82
  go_wp2_with fail
  refine (rrotr_7 x _ h0 h1).mono ?_
  rintro e w' ⟨rfl, rfl⟩
  go_wp2_with fail
  refine (rrotr_18 x _ h0 h1).mono ?_
  rintro e w' ⟨rfl, rfl⟩
  go_wp2
  go_ret
  exact ⟨rfl, rfl⟩
theorem rsmall1_spec (x : Int) (w : World) (h0 : 0 ≤ x) (h1 : x ≤ 4294967295) : Calls Tryd.prog 81 #[.int .u32 x] w fun e w' => e = .returned (.int .u32 (Sha.s1 x)) ∧ w = w' := by
  go_enter Tryd.func81, Tryd.ntmps81
  go_wp2_with fail
  refine (rrotr_17 x _ h0 h1).mono ?_
  rintro e w' ⟨rfl, rfl⟩
  go_wp2_with fail
  refine (rrotr_19 x _ h0 h1).mono ?_
  rintro e w' ⟨rfl, rfl⟩
  go_wp2
  go_ret
  exact ⟨rfl, rfl⟩
end Go.Proofs.YtpidpbjbgjkaaaaDoor
