/- Flags as bits. No program in sight. -/
import Derived.Test.YtliibpajgdncpaaStateStep
namespace Go.Proofs.Ytliibpajgdncpaa
open Go.RowKit
set_option linter.unusedVariables false
namespace State
theorem ofInt_small (k : Nat) (hk : k < 32) : (BitVec.ofInt 64 (k : Int)).toNat = k := by
  rw [BitVec.toNat_ofInt]
  have : ((k : Int) % ((2 ^ 64 : Nat) : Int)) = (k : Int) := Int.emod_eq_of_lt (by omega) (by have : (32 : Nat) < 2 ^ 64 := by decide
                                                                                              omega)
  rw [this, Int.toNat_natCast]
theorem wrap_small (n : Nat) (h : n < 32) : IntKind.i64.wrap (n : Int) = (n : Int) := by rw [IntKind.wrap_i64]; omega
/-- the lowest five bits -/
def low (fl : Int) : Nat := (BitVec.ofInt 64 fl).toNat % 32
theorem low_lt (fl : Int) : low fl < 32 := Nat.mod_lt _ (by decide)
theorem bits_low5 (fl : Int) (k : Nat) (hk : k < 32) : bits .and .i64 fl (k : Int) = ((low fl &&& k : Nat) : Int) := by
  show IntKind.i64.wrap (((BitVec.ofInt 64 fl &&& BitVec.ofInt 64 (k : Int)).toNat : Nat) : Int) = _
  have h31 : k &&& 31 = k := by
    have := Nat.and_two_pow_sub_one_eq_mod k 5
    rw [show 2 ^ 5 - 1 = 31 by decide] at this
    rw [this]; exact Nat.mod_eq_of_lt hk
  have e : (BitVec.ofInt 64 fl &&& BitVec.ofInt 64 (k : Int)).toNat = low fl &&& k := by
    rw [BitVec.toNat_and, ofInt_small k hk]
    unfold low
    have := Nat.and_two_pow_sub_one_eq_mod (BitVec.ofInt 64 fl).toNat 5
    rw [show 2 ^ 5 - 1 = 31 by decide, show 2 ^ 5 = 32 by decide] at this
    rw [← this, Nat.and_assoc, Nat.and_comm 31 k, h31]
  rw [e]
  exact wrap_small _ (Nat.lt_of_le_of_lt Nat.and_le_right hk)
theorem has_low (fl : Int) (k : Nat) (hk : k < 32) : has fl (k : Int) = ((low fl &&& k) != 0) := by
  unfold has
  rw [bits_low5 fl k hk]
  rw [Bool.eq_iff_iff]
  simp
theorem dec23 : ∀ m : Nat, m < 32 → ((((m &&& 23 : Nat) : Int) == 2) = (((m &&& 2) != 0) && !((m &&& 16) != 0) && !((m &&& 1) != 0) && !((m &&& 4) != 0))) := by decide
theorem dec22 : ∀ m : Nat, m < 32 → ((((m &&& 22 : Nat) : Int) == 16) = (!((m &&& 2) != 0) && ((m &&& 16) != 0) && !((m &&& 4) != 0))) := by decide
theorem decOne : ∀ m : Nat, m < 32 → (((((m &&& 1 : Nat) : Int) == 1) = ((m &&& 1) != 0)) ∧ ((((m &&& 2 : Nat) : Int) == 2) = ((m &&& 2) != 0)) ∧ ((((m &&& 4 : Nat) : Int) == 4) = ((m &&& 4) != 0)) ∧ ((((m &&& 16 : Nat) : Int) == 16) = ((m &&& 16) != 0))) := by decide
theorem mask23 (fl : Int) : (bits .and .i64 fl 23 == 2) = (has fl 2 && !has fl 16 && !has fl 1 && !has fl 4) := by
  have h : bits .and .i64 fl 23 = _ := bits_low5 fl 23 (by decide)
  have h2 : has fl 2 = _ := has_low fl 2 (by decide)
  have h16 : has fl 16 = _ := has_low fl 16 (by decide)
  have h1 : has fl 1 = _ := has_low fl 1 (by decide)
  have h4 : has fl 4 = _ := has_low fl 4 (by decide)
  rw [h, h2, h16, h1, h4]
  exact dec23 _ (low_lt fl)
theorem mask22 (fl : Int) : (bits .and .i64 fl 22 == 16) = (!has fl 2 && has fl 16 && !has fl 4) := by
  have h : bits .and .i64 fl 22 = _ := bits_low5 fl 22 (by decide)
  have h2 : has fl 2 = _ := has_low fl 2 (by decide)
  have h16 : has fl 16 = _ := has_low fl 16 (by decide)
  have h4 : has fl 4 = _ := has_low fl 4 (by decide)
  rw [h, h2, h16, h4]
  exact dec22 _ (low_lt fl)
theorem eq_has (fl : Int) : (bits .and .i64 fl 1 == 1) = has fl 1 ∧ (bits .and .i64 fl 2 == 2) = has fl 2 ∧ (bits .and .i64 fl 4 == 4) = has fl 4 ∧ (bits .and .i64 fl 16 == 16) = has fl 16 := by
  have g1 : bits .and .i64 fl 1 = _ := bits_low5 fl 1 (by decide)
  have g2 : bits .and .i64 fl 2 = _ := bits_low5 fl 2 (by decide)
  have g4 : bits .and .i64 fl 4 = _ := bits_low5 fl 4 (by decide)
  have g16 : bits .and .i64 fl 16 = _ := bits_low5 fl 16 (by decide)
  have h2 : has fl 2 = _ := has_low fl 2 (by decide)
  have h16 : has fl 16 = _ := has_low fl 16 (by decide)
  have h1 : has fl 1 = _ := has_low fl 1 (by decide)
  have h4 : has fl 4 = _ := has_low fl 4 (by decide)
  rw [g1, g2, g4, g16, h2, h16, h1, h4]
  exact decOne _ (low_lt fl)
theorem ofInt_wrap (x : BitVec 64) : BitVec.ofInt 64 (IntKind.i64.wrap (x.toNat : Int)) = x := by
  apply BitVec.eq_of_toNat_eq
  rw [BitVec.toNat_ofInt, IntKind.wrap_i64]
  have := x.isLt
  omega
theorem has_or (fl : Int) : has (bits .or .i64 fl 4) 4 = true := by
  have h : has (bits .or .i64 fl 4) 4 = _ := has_low (bits .or .i64 fl 4) 4 (by decide)
  rw [h]
  unfold low
  have e : bits .or .i64 fl 4 = IntKind.i64.wrap (((BitVec.ofInt 64 fl ||| BitVec.ofInt 64 4).toNat : Nat) : Int) := rfl
  rw [e, ofInt_wrap, BitVec.toNat_or]
  have e4 : (BitVec.ofInt 64 4).toNat = 4 := rfl
  rw [e4]
  have := Nat.and_two_pow_sub_one_eq_mod ((BitVec.ofInt 64 fl).toNat ||| 4) 5
  rw [show 2 ^ 5 - 1 = 31 by decide, show 2 ^ 5 = 32 by decide] at this
  rw [← this, Nat.and_assoc, show (31 &&& 4 : Nat) = 4 by decide, Nat.and_or_distrib_right, show (4 &&& 4 : Nat) = 4 by decide]
  rw [bne_iff_ne]
  intro hz
  have h4 := Nat.right_le_or (n := (BitVec.ofInt 64 fl).toNat &&& 4) (m := 4)
  rw [hz] at h4
  omega
end State
end Go.Proofs.Ytliibpajgdncpaa
