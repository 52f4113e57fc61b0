/- A word out of four bytes, by '|'. No program in sight. -/
import Derived.Test.YtklefgcackchiaaOwn
namespace Go.Proofs.Ytklefgcackchiaa
open Go.RowKit
set_option linter.unusedVariables false
namespace Px
theorem nat_or (j a b : Nat) (hb : b < 2 ^ j) : (a * 2 ^ j) ||| b = a * 2 ^ j + b := by
  have := Nat.shiftLeft_add_eq_or_of_lt hb a
  rw [Nat.shiftLeft_eq] at this
  exact this.symm
theorem u32_or_nat (a b : Nat) (ha : a < 4294967296) (hb : b < 4294967296) : bits .or .u32 (a : Int) (b : Int) = ((a ||| b : Nat) : Int) := by
  have e1 : (BitVec.ofInt 32 (a : Int)).toNat = a := by rw [BitVec.toNat_ofInt]; omega
  have e2 : (BitVec.ofInt 32 (b : Int)).toNat = b := by rw [BitVec.toNat_ofInt]; omega
  have h := Nat.or_lt_two_pow (n := 32) (show a < 2 ^ 32 by omega) (show b < 2 ^ 32 by omega)
  show IntKind.u32.wrap (((BitVec.ofInt 32 (a : Int) ||| BitVec.ofInt 32 (b : Int)).toNat : Nat) : Int) = _
  rw [BitVec.toNat_or, e1, e2, IntKind.wrap_u32]
  omega
theorem u32_or {a b : Int} (j : Nat) (ha : ∃ k : Nat, a = k * 2 ^ j ∧ k * 2 ^ j < 2 ^ 32) (hb0 : 0 ≤ b) (hb : b < 2 ^ j) (hb32 : b < 4294967296) : bits .or .u32 a b = a + b := by
  obtain ⟨k, rfl, hk⟩ := ha
  obtain ⟨y, rfl⟩ := Int.eq_ofNat_of_zero_le hb0
  have hy : y < 2 ^ j := by exact_mod_cast hb
  have e : ((k : Int) * 2 ^ j) = ((k * 2 ^ j : Nat) : Int) := by push_cast; rfl
  rw [e, u32_or_nat _ _ hk (by omega), nat_or _ _ _ hy]
  push_cast
  rfl
theorem word_or {a b c d : Int} (a0 : 0 ≤ a) (a1 : a ≤ 255) (b0 : 0 ≤ b) (b1 : b ≤ 255) (c0 : 0 ≤ c) (c1 : c ≤ 255) (d0 : 0 ≤ d) (d1 : d ≤ 255) :
    bits .or .u32 (bits .or .u32 (bits .or .u32 (a * 16777216) (b * 65536)) (c * 256)) d = a * 16777216 + b * 65536 + c * 256 + d := by
  have e1 : bits .or .u32 (a * 16777216) (b * 65536) = a * 16777216 + b * 65536 := u32_or 24 ⟨a.toNat, by omega, by omega⟩ (by omega) (by omega) (by omega)
  have e2 : bits .or .u32 (a * 16777216 + b * 65536) (c * 256) = a * 16777216 + b * 65536 + c * 256 := u32_or 16 ⟨(a * 256 + b).toNat, by omega, by omega⟩ (by omega) (by omega) (by omega)
  have e3 : bits .or .u32 (a * 16777216 + b * 65536 + c * 256) d = a * 16777216 + b * 65536 + c * 256 + d := u32_or 8 ⟨((a * 256 + b) * 256 + c).toNat, by omega, by omega⟩ (by omega) (by omega) (by omega)
  rw [e1, e2, e3]
end Px
end Go.Proofs.Ytklefgcackchiaa
