/- Flags or 16: the acknowledgement is there. -/
import Derived.Test.YtklefgcackchiaaBase
namespace Go.Proofs.Ytklefgcackchiaa
open Go.RowKit
set_option linter.unusedVariables false
theorem bits_ofInt (b : BitVec 64) : BitVec.ofInt 64 (IntKind.i64.wrap (b.toNat : Int)) = b := by
  apply BitVec.eq_of_toNat_eq
  rw [BitVec.toNat_ofInt, IntKind.wrap_i64]
  have := b.isLt
  omega
theorem or16_bd (x : Int) : -9223372036854775808 ≤ Go.bits .or .i64 x 16 ∧ Go.bits .or .i64 x 16 ≤ 9223372036854775807 := by
  show -9223372036854775808 ≤ IntKind.i64.wrap (((BitVec.ofInt 64 x ||| BitVec.ofInt 64 16).toNat : Nat) : Int) ∧ IntKind.i64.wrap (((BitVec.ofInt 64 x ||| BitVec.ofInt 64 16).toNat : Nat) : Int) ≤ 9223372036854775807
  rw [IntKind.wrap_i64]
  omega
theorem or16_and16 (x : Int) : (Go.bits .and .i64 (Go.bits .or .i64 x 16) 16 != 0) = true := by
  have e : BitVec.ofInt 64 (Go.bits .or .i64 x 16) = BitVec.ofInt 64 x ||| 16#64 := bits_ofInt (BitVec.ofInt 64 x ||| BitVec.ofInt 64 16)
  have h : (BitVec.ofInt 64 x ||| 16#64) &&& 16#64 = 16#64 := by
    ext i
    simp only [BitVec.getElem_and, BitVec.getElem_or]
    cases (BitVec.ofInt 64 x)[i] <;> simp
  have h2 : Go.bits .and .i64 (Go.bits .or .i64 x 16) 16 = 16 := by
    show IntKind.i64.wrap (((BitVec.ofInt 64 (Go.bits .or .i64 x 16) &&& BitVec.ofInt 64 16).toNat : Nat) : Int) = 16
    rw [e]
    have h3 : (BitVec.ofInt 64 x ||| 16#64) &&& BitVec.ofInt 64 16 = 16#64 := h
    rw [h3]
    decide +kernel
  rw [h2]
  rfl
end Go.Proofs.Ytklefgcackchiaa
