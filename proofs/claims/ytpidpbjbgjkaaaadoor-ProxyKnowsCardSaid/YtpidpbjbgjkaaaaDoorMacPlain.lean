/- Digests with a key, over numbers. No program in sight. -/
import Derived.Test.YtpidpbjbgjkaaaaDoorShaSumP
namespace Go.Proofs.YtpidpbjbgjkaaaaDoor
open Go.RowKit
set_option linter.unusedVariables false
namespace Mac
/-- the key, or its digest -/
def blk (key : List Int) : List Int := if 64 < key.length then Sha.sum key else key
/-- a block of it -/
def full (key : List Int) : List Int := blk key ++ List.replicate (64 - (blk key).length) 0
def mask (key : List Int) (y : Int) : List Int := (full key).map fun x => bits .xor .u8 x y
def sum (key b : List Int) : List Int := Sha.sum (mask key 92 ++ Sha.sum (mask key 54 ++ b))
def bits (key b : List Int) (n : Int) : Int := if n < 1 ∨ 32 < n then 0 else Sha.wordAt (sum key b) 0 / 2 ^ (32 - n).toNat
theorem blk_len (key : List Int) : (blk key).length ≤ 64 := by
  unfold blk
  split
  · rw [Sha.sum_len]; omega
  · omega
theorem full_len (key : List Int) : (full key).length = 64 := by
  have := blk_len key
  simp [full]; omega
theorem mask_len (key : List Int) (y : Int) : (mask key y).length = 64 := by simp [mask, full_len]
theorem blk_isB {key : List Int} (h : isB key) : isB (blk key) := by
  unfold blk
  split
  · exact Sha.sum_isB key
  · exact h
theorem full_isB {key : List Int} (h : isB key) : isB (full key) := by
  intro x hx
  rcases List.mem_append.1 hx with hx | hx
  · exact blk_isB h x hx
  · have := List.eq_of_mem_replicate hx
    omega
theorem xor_bd (x y : Int) : 0 ≤ Go.bits .xor .u8 x y ∧ Go.bits .xor .u8 x y ≤ 255 := by
  have h : Go.bits .xor .u8 x y = IntKind.u8.wrap ((BitVec.ofInt IntKind.u8.bits x ^^^ BitVec.ofInt IntKind.u8.bits y).toNat : Int) := rfl
  rw [h, IntKind.wrap_u8]
  omega
theorem mask_isB (key : List Int) (y : Int) : isB (mask key y) := by
  intro x hx
  simp only [mask, List.mem_map] at hx
  obtain ⟨z, _, rfl⟩ := hx
  exact xor_bd _ _
theorem isB_app {a b : List Int} (ha : isB a) (hb : isB b) : isB (a ++ b) := by
  intro x hx
  rcases List.mem_append.1 hx with h | h
  · exact ha x h
  · exact hb x h
theorem sum_isB (key b : List Int) : isB (sum key b) := Sha.sum_isB _
theorem sum_len (key b : List Int) : (sum key b).length = 32 := rfl
theorem bits_eq (key b : List Int) (n : Int) : bits key b n = Sha.bits (mask key 92 ++ Sha.sum (mask key 54 ++ b)) n := rfl
theorem bits_bd (key b : List Int) (n : Int) : 0 ≤ bits key b n ∧ bits key b n ≤ 4294967295 := by
  unfold bits
  split
  · omega
  · have := Sha.wordAt_bd (sum_isB key b) 0
    have hp : (0 : Int) < 2 ^ (32 - n).toNat := Int.pow_pos (by decide)
    exact ⟨Int.ediv_nonneg this.1 (Int.le_of_lt hp), Int.le_trans (Int.ediv_le_self _ this.1) this.2⟩
/-- a key that is longer than a block -/
theorem sum_long {key : List Int} (h : 64 < key.length) (b : List Int) : sum (Sha.sum key) b = sum key b := by
  have e : blk (Sha.sum key) = blk key := by
    unfold blk
    rw [if_neg (by rw [Sha.sum_len]; omega), if_pos h]
  have ef : full (Sha.sum key) = full key := by unfold full; rw [e]
  unfold sum mask
  rw [ef]
/-- a key that is shorter, with noughts behind it -/
theorem sum_more {key : List Int} (k : Nat) (h : key.length + k ≤ 64) (b : List Int) : sum (key ++ List.replicate k 0) b = sum key b := by
  have ef : full (key ++ List.replicate k 0) = full key := by
    unfold full blk
    rw [if_neg (by simp; omega), if_neg (by omega), List.append_assoc, List.replicate_append_replicate]
    congr 2
    simp; omega
  unfold sum mask
  rw [ef]
end Mac
end Go.Proofs.YtpidpbjbgjkaaaaDoor
