/- The walks of sha's leaves: words turned. -/
import Derived.Test.YtpidpbjbgjkaaaaDoorChecked
import Derived.Test.YtpidpbjbgjkaaaaDoorShaPlain
namespace Go.Proofs.YtpidpbjbgjkaaaaDoor
open Go.RowKit
set_option linter.unusedVariables false
namespace Sha
theorem nat_or (j a b : Nat) (hb : b < 2 ^ j) : (a * 2 ^ j) ||| b = a * 2 ^ j + b := by
  have := Nat.shiftLeft_add_eq_or_of_lt hb a
  rw [Nat.shiftLeft_eq] at this
  exact this.symm
theorem low_up (x : Int) (n : Nat) (hn : n ≤ 32) : x * 2 ^ (32 - n) % 4294967296 = x % 2 ^ n * 2 ^ (32 - n) := by
  have e : (4294967296 : Int) = 2 ^ n * 2 ^ (32 - n) := by rw [← Int.pow_add, show n + (32 - n) = 32 by omega]; rfl
  rw [e, Int.mul_comm x, Int.mul_comm (2 ^ n : Int), Int.mul_emod_mul_of_pos _ _ (by exact Int.pow_pos (by decide)), Int.mul_comm]
theorem rotr_or {x : Int} (h0 : 0 ≤ x) (h1 : x ≤ 4294967295) (n : Nat) (hn0 : 0 < n) (hn : n < 32) : bits .or .u32 (x * 2 ^ (32 - n) % 4294967296) (x / 2 ^ n) = rotr n x := by
  obtain ⟨y, rfl⟩ := Int.eq_ofNat_of_zero_le h0
  rw [low_up _ _ (by omega)]
  have hy : y < 2 ^ 32 := by omega
  have e1 : ((y : Int) % 2 ^ n * 2 ^ (32 - n)) = ((y % 2 ^ n * 2 ^ (32 - n) : Nat) : Int) := by push_cast; rfl
  have e2 : ((y : Int) / 2 ^ n) = ((y / 2 ^ n : Nat) : Int) := by push_cast; rfl
  have hp : (2 : Nat) ^ n * 2 ^ (32 - n) = 2 ^ 32 := by rw [← Nat.pow_add, show n + (32 - n) = 32 by omega]
  have hlo : y / 2 ^ n < 2 ^ (32 - n) := by
    rw [Nat.div_lt_iff_lt_mul (Nat.two_pow_pos _), Nat.mul_comm, hp]; exact hy
  have hhi : y % 2 ^ n * 2 ^ (32 - n) < 2 ^ 32 := by
    rw [← hp]; exact Nat.mul_lt_mul_of_pos_right (Nat.mod_lt _ (Nat.two_pow_pos _)) (Nat.two_pow_pos _)
  have hlo2 : y / 2 ^ n < 4294967296 := Nat.lt_of_le_of_lt (Nat.div_le_self _ _) hy
  unfold rotr
  rw [e1, e2, u32_or_nat _ _ hhi hlo2, nat_or _ _ _ hlo]
  push_cast
  omega
theorem rotr_bd {x : Int} (h0 : 0 ≤ x) (h1 : x ≤ 4294967295) (n : Nat) (hn : n ≤ 32) : 0 ≤ rotr n x ∧ rotr n x ≤ 4294967295 := by
  obtain ⟨y, rfl⟩ := Int.eq_ofNat_of_zero_le h0
  have hp : (2 : Nat) ^ n * 2 ^ (32 - n) = 2 ^ 32 := by rw [← Nat.pow_add, show n + (32 - n) = 32 by omega]
  have hlo : y / 2 ^ n < 2 ^ (32 - n) := by
    rw [Nat.div_lt_iff_lt_mul (Nat.two_pow_pos _), Nat.mul_comm, hp]; omega
  have hm := Nat.mod_lt y (Nat.two_pow_pos n)
  have hle : (y % 2 ^ n + 1) * 2 ^ (32 - n) ≤ 2 ^ 32 := by rw [← hp]; exact Nat.mul_le_mul_right _ hm
  have e : rotr n y = ((y / 2 ^ n + y % 2 ^ n * 2 ^ (32 - n) : Nat) : Int) := by unfold rotr; push_cast; rfl
  rw [Nat.add_mul, Nat.one_mul] at hle
  have h2 : y / 2 ^ n + y % 2 ^ n * 2 ^ (32 - n) ≤ 4294967295 := by
    generalize y % 2 ^ n * 2 ^ (32 - n) = q at hle ⊢
    generalize (2 : Nat) ^ (32 - n) = s at hle hlo
    omega
  rw [e]
  exact ⟨Int.natCast_nonneg _, Int.ofNat_le.2 h2⟩
end Sha
theorem rotl_2 (x : Int) (w : World) (h0 : 0 ≤ x) (h1 : x ≤ 4294967295) : Calls Tryd.prog 90 #[.int .u32 x, .int .i64 (-2)] w fun e w' => e = .returned (.int .u32 (Sha.rotr 2 x)) ∧ w = w' := by
  have hr : bits .or .u32 (x * 1073741824 % 4294967296) (x / 4) = Sha.rotr 2 x := Sha.rotr_or h0 h1 2 (by decide) (by decide)
  have hk : bits .and .u64 (IntKind.u64.wrap (-2)) 31 = 30 := by decide
  go_enter Tryd.func90, Tryd.ntmps90
  go_wp2
  go_ret
  exact ⟨rfl, rfl⟩
theorem turn_2 (x : Int) (w : World) (h0 : 0 ≤ x) (h1 : x ≤ 4294967295) : Calls Tryd.prog 88 #[.int .u32 x, .int .i64 2] w fun e w' => e = .returned (.int .u32 (Sha.rotr 2 x)) ∧ w = w' := by
  go_enter Tryd.func88, Tryd.ntmps88
  go_wp2_with (go_at_call 90; refine (rotl_2 x _ h0 h1).mono ?_; rintro e w' ⟨rfl, rfl⟩)
  go_ret
  exact ⟨rfl, rfl⟩
theorem rrotr_2 (x : Int) (w : World) (h0 : 0 ≤ x) (h1 : x ≤ 4294967295) : Calls Tryd.prog 89 #[.int .u32 x, .int .u64 2] w fun e w' => e = .returned (.int .u32 (Sha.rotr 2 x)) ∧ w = w' := by
  have hr : x * 1073741824 % 4294967296 = x % 4 * 1073741824 := Sha.low_up x 2 (by decide)
  have hd : Sha.rotr 2 x = x / 4 + x % 4 * 1073741824 := rfl
  have hb := Sha.rotr_bd h0 h1 2 (by decide)
  rw [hd] at hb ⊢
  go_enter Tryd.func89, Tryd.ntmps89
  go_wp2
  go_ret
  refine ⟨ret_int ?_, rfl⟩
  omega
theorem rotl_6 (x : Int) (w : World) (h0 : 0 ≤ x) (h1 : x ≤ 4294967295) : Calls Tryd.prog 90 #[.int .u32 x, .int .i64 (-6)] w fun e w' => e = .returned (.int .u32 (Sha.rotr 6 x)) ∧ w = w' := by
  have hr : bits .or .u32 (x * 67108864 % 4294967296) (x / 64) = Sha.rotr 6 x := Sha.rotr_or h0 h1 6 (by decide) (by decide)
  have hk : bits .and .u64 (IntKind.u64.wrap (-6)) 31 = 26 := by decide
  go_enter Tryd.func90, Tryd.ntmps90
  go_wp2
  go_ret
  exact ⟨rfl, rfl⟩
theorem turn_6 (x : Int) (w : World) (h0 : 0 ≤ x) (h1 : x ≤ 4294967295) : Calls Tryd.prog 88 #[.int .u32 x, .int .i64 6] w fun e w' => e = .returned (.int .u32 (Sha.rotr 6 x)) ∧ w = w' := by
  go_enter Tryd.func88, Tryd.ntmps88
  go_wp2_with (go_at_call 90; refine (rotl_6 x _ h0 h1).mono ?_; rintro e w' ⟨rfl, rfl⟩)
  go_ret
  exact ⟨rfl, rfl⟩
theorem rrotr_6 (x : Int) (w : World) (h0 : 0 ≤ x) (h1 : x ≤ 4294967295) : Calls Tryd.prog 89 #[.int .u32 x, .int .u64 6] w fun e w' => e = .returned (.int .u32 (Sha.rotr 6 x)) ∧ w = w' := by
  have hr : x * 67108864 % 4294967296 = x % 64 * 67108864 := Sha.low_up x 6 (by decide)
  have hd : Sha.rotr 6 x = x / 64 + x % 64 * 67108864 := rfl
  have hb := Sha.rotr_bd h0 h1 6 (by decide)
  rw [hd] at hb ⊢
  go_enter Tryd.func89, Tryd.ntmps89
  go_wp2
  go_ret
  refine ⟨ret_int ?_, rfl⟩
  omega
theorem rotl_7 (x : Int) (w : World) (h0 : 0 ≤ x) (h1 : x ≤ 4294967295) : Calls Tryd.prog 90 #[.int .u32 x, .int .i64 (-7)] w fun e w' => e = .returned (.int .u32 (Sha.rotr 7 x)) ∧ w = w' := by
  have hr : bits .or .u32 (x * 33554432 % 4294967296) (x / 128) = Sha.rotr 7 x := Sha.rotr_or h0 h1 7 (by decide) (by decide)
  have hk : bits .and .u64 (IntKind.u64.wrap (-7)) 31 = 25 := by decide
  go_enter Tryd.func90, Tryd.ntmps90
  go_wp2
  go_ret
  exact ⟨rfl, rfl⟩
theorem turn_7 (x : Int) (w : World) (h0 : 0 ≤ x) (h1 : x ≤ 4294967295) : Calls Tryd.prog 88 #[.int .u32 x, .int .i64 7] w fun e w' => e = .returned (.int .u32 (Sha.rotr 7 x)) ∧ w = w' := by
  go_enter Tryd.func88, Tryd.ntmps88
  go_wp2_with (go_at_call 90; refine (rotl_7 x _ h0 h1).mono ?_; rintro e w' ⟨rfl, rfl⟩)
  go_ret
  exact ⟨rfl, rfl⟩
theorem rrotr_7 (x : Int) (w : World) (h0 : 0 ≤ x) (h1 : x ≤ 4294967295) : Calls Tryd.prog 89 #[.int .u32 x, .int .u64 7] w fun e w' => e = .returned (.int .u32 (Sha.rotr 7 x)) ∧ w = w' := by
  have hr : x * 33554432 % 4294967296 = x % 128 * 33554432 := Sha.low_up x 7 (by decide)
  have hd : Sha.rotr 7 x = x / 128 + x % 128 * 33554432 := rfl
  have hb := Sha.rotr_bd h0 h1 7 (by decide)
  rw [hd] at hb ⊢
  go_enter Tryd.func89, Tryd.ntmps89
  go_wp2
  go_ret
  refine ⟨ret_int ?_, rfl⟩
  omega
theorem rotl_11 (x : Int) (w : World) (h0 : 0 ≤ x) (h1 : x ≤ 4294967295) : Calls Tryd.prog 90 #[.int .u32 x, .int .i64 (-11)] w fun e w' => e = .returned (.int .u32 (Sha.rotr 11 x)) ∧ w = w' := by
  have hr : bits .or .u32 (x * 2097152 % 4294967296) (x / 2048) = Sha.rotr 11 x := Sha.rotr_or h0 h1 11 (by decide) (by decide)
  have hk : bits .and .u64 (IntKind.u64.wrap (-11)) 31 = 21 := by decide
  go_enter Tryd.func90, Tryd.ntmps90
  go_wp2
  go_ret
  exact ⟨rfl, rfl⟩
theorem turn_11 (x : Int) (w : World) (h0 : 0 ≤ x) (h1 : x ≤ 4294967295) : Calls Tryd.prog 88 #[.int .u32 x, .int .i64 11] w fun e w' => e = .returned (.int .u32 (Sha.rotr 11 x)) ∧ w = w' := by
  go_enter Tryd.func88, Tryd.ntmps88
  go_wp2_with (go_at_call 90; refine (rotl_11 x _ h0 h1).mono ?_; rintro e w' ⟨rfl, rfl⟩)
  go_ret
  exact ⟨rfl, rfl⟩
theorem rrotr_11 (x : Int) (w : World) (h0 : 0 ≤ x) (h1 : x ≤ 4294967295) : Calls Tryd.prog 89 #[.int .u32 x, .int .u64 11] w fun e w' => e = .returned (.int .u32 (Sha.rotr 11 x)) ∧ w = w' := by
  have hr : x * 2097152 % 4294967296 = x % 2048 * 2097152 := Sha.low_up x 11 (by decide)
  have hd : Sha.rotr 11 x = x / 2048 + x % 2048 * 2097152 := rfl
  have hb := Sha.rotr_bd h0 h1 11 (by decide)
  rw [hd] at hb ⊢
  go_enter Tryd.func89, Tryd.ntmps89
  go_wp2
  go_ret
  refine ⟨ret_int ?_, rfl⟩
  omega
theorem rotl_13 (x : Int) (w : World) (h0 : 0 ≤ x) (h1 : x ≤ 4294967295) : Calls Tryd.prog 90 #[.int .u32 x, .int .i64 (-13)] w fun e w' => e = .returned (.int .u32 (Sha.rotr 13 x)) ∧ w = w' := by
  have hr : bits .or .u32 (x * 524288 % 4294967296) (x / 8192) = Sha.rotr 13 x := Sha.rotr_or h0 h1 13 (by decide) (by decide)
  have hk : bits .and .u64 (IntKind.u64.wrap (-13)) 31 = 19 := by decide
  go_enter Tryd.func90, Tryd.ntmps90
  go_wp2
  go_ret
  exact ⟨rfl, rfl⟩
theorem turn_13 (x : Int) (w : World) (h0 : 0 ≤ x) (h1 : x ≤ 4294967295) : Calls Tryd.prog 88 #[.int .u32 x, .int .i64 13] w fun e w' => e = .returned (.int .u32 (Sha.rotr 13 x)) ∧ w = w' := by
  go_enter Tryd.func88, Tryd.ntmps88
  go_wp2_with (go_at_call 90; refine (rotl_13 x _ h0 h1).mono ?_; rintro e w' ⟨rfl, rfl⟩)
  go_ret
  exact ⟨rfl, rfl⟩
theorem rrotr_13 (x : Int) (w : World) (h0 : 0 ≤ x) (h1 : x ≤ 4294967295) : Calls Tryd.prog 89 #[.int .u32 x, .int .u64 13] w fun e w' => e = .returned (.int .u32 (Sha.rotr 13 x)) ∧ w = w' := by
  have hr : x * 524288 % 4294967296 = x % 8192 * 524288 := Sha.low_up x 13 (by decide)
  have hd : Sha.rotr 13 x = x / 8192 + x % 8192 * 524288 := rfl
  have hb := Sha.rotr_bd h0 h1 13 (by decide)
  rw [hd] at hb ⊢
  go_enter Tryd.func89, Tryd.ntmps89
  go_wp2
  go_ret
  refine ⟨ret_int ?_, rfl⟩
  omega
theorem rotl_17 (x : Int) (w : World) (h0 : 0 ≤ x) (h1 : x ≤ 4294967295) : Calls Tryd.prog 90 #[.int .u32 x, .int .i64 (-17)] w fun e w' => e = .returned (.int .u32 (Sha.rotr 17 x)) ∧ w = w' := by
  have hr : bits .or .u32 (x * 32768 % 4294967296) (x / 131072) = Sha.rotr 17 x := Sha.rotr_or h0 h1 17 (by decide) (by decide)
  have hk : bits .and .u64 (IntKind.u64.wrap (-17)) 31 = 15 := by decide
  go_enter Tryd.func90, Tryd.ntmps90
  go_wp2
  go_ret
  exact ⟨rfl, rfl⟩
theorem turn_17 (x : Int) (w : World) (h0 : 0 ≤ x) (h1 : x ≤ 4294967295) : Calls Tryd.prog 88 #[.int .u32 x, .int .i64 17] w fun e w' => e = .returned (.int .u32 (Sha.rotr 17 x)) ∧ w = w' := by
  go_enter Tryd.func88, Tryd.ntmps88
  go_wp2_with (go_at_call 90; refine (rotl_17 x _ h0 h1).mono ?_; rintro e w' ⟨rfl, rfl⟩)
  go_ret
  exact ⟨rfl, rfl⟩
theorem rrotr_17 (x : Int) (w : World) (h0 : 0 ≤ x) (h1 : x ≤ 4294967295) : Calls Tryd.prog 89 #[.int .u32 x, .int .u64 17] w fun e w' => e = .returned (.int .u32 (Sha.rotr 17 x)) ∧ w = w' := by
  have hr : x * 32768 % 4294967296 = x % 131072 * 32768 := Sha.low_up x 17 (by decide)
  have hd : Sha.rotr 17 x = x / 131072 + x % 131072 * 32768 := rfl
  have hb := Sha.rotr_bd h0 h1 17 (by decide)
  rw [hd] at hb ⊢
  go_enter Tryd.func89, Tryd.ntmps89
  go_wp2
  go_ret
  refine ⟨ret_int ?_, rfl⟩
  omega
theorem rotl_18 (x : Int) (w : World) (h0 : 0 ≤ x) (h1 : x ≤ 4294967295) : Calls Tryd.prog 90 #[.int .u32 x, .int .i64 (-18)] w fun e w' => e = .returned (.int .u32 (Sha.rotr 18 x)) ∧ w = w' := by
  have hr : bits .or .u32 (x * 16384 % 4294967296) (x / 262144) = Sha.rotr 18 x := Sha.rotr_or h0 h1 18 (by decide) (by decide)
  have hk : bits .and .u64 (IntKind.u64.wrap (-18)) 31 = 14 := by decide
  go_enter Tryd.func90, Tryd.ntmps90
  go_wp2
  go_ret
  exact ⟨rfl, rfl⟩
theorem turn_18 (x : Int) (w : World) (h0 : 0 ≤ x) (h1 : x ≤ 4294967295) : Calls Tryd.prog 88 #[.int .u32 x, .int .i64 18] w fun e w' => e = .returned (.int .u32 (Sha.rotr 18 x)) ∧ w = w' := by
  go_enter Tryd.func88, Tryd.ntmps88
  go_wp2_with (go_at_call 90; refine (rotl_18 x _ h0 h1).mono ?_; rintro e w' ⟨rfl, rfl⟩)
  go_ret
  exact ⟨rfl, rfl⟩
theorem rrotr_18 (x : Int) (w : World) (h0 : 0 ≤ x) (h1 : x ≤ 4294967295) : Calls Tryd.prog 89 #[.int .u32 x, .int .u64 18] w fun e w' => e = .returned (.int .u32 (Sha.rotr 18 x)) ∧ w = w' := by
  have hr : x * 16384 % 4294967296 = x % 262144 * 16384 := Sha.low_up x 18 (by decide)
  have hd : Sha.rotr 18 x = x / 262144 + x % 262144 * 16384 := rfl
  have hb := Sha.rotr_bd h0 h1 18 (by decide)
  rw [hd] at hb ⊢
  go_enter Tryd.func89, Tryd.ntmps89
  go_wp2
  go_ret
  refine ⟨ret_int ?_, rfl⟩
  omega
theorem rotl_19 (x : Int) (w : World) (h0 : 0 ≤ x) (h1 : x ≤ 4294967295) : Calls Tryd.prog 90 #[.int .u32 x, .int .i64 (-19)] w fun e w' => e = .returned (.int .u32 (Sha.rotr 19 x)) ∧ w = w' := by
  have hr : bits .or .u32 (x * 8192 % 4294967296) (x / 524288) = Sha.rotr 19 x := Sha.rotr_or h0 h1 19 (by decide) (by decide)
  have hk : bits .and .u64 (IntKind.u64.wrap (-19)) 31 = 13 := by decide
  go_enter Tryd.func90, Tryd.ntmps90
  go_wp2
  go_ret
  exact ⟨rfl, rfl⟩
theorem turn_19 (x : Int) (w : World) (h0 : 0 ≤ x) (h1 : x ≤ 4294967295) : Calls Tryd.prog 88 #[.int .u32 x, .int .i64 19] w fun e w' => e = .returned (.int .u32 (Sha.rotr 19 x)) ∧ w = w' := by
  go_enter Tryd.func88, Tryd.ntmps88
  go_wp2_with (go_at_call 90; refine (rotl_19 x _ h0 h1).mono ?_; rintro e w' ⟨rfl, rfl⟩)
  go_ret
  exact ⟨rfl, rfl⟩
theorem rrotr_19 (x : Int) (w : World) (h0 : 0 ≤ x) (h1 : x ≤ 4294967295) : Calls Tryd.prog 89 #[.int .u32 x, .int .u64 19] w fun e w' => e = .returned (.int .u32 (Sha.rotr 19 x)) ∧ w = w' := by
  have hr : x * 8192 % 4294967296 = x % 524288 * 8192 := Sha.low_up x 19 (by decide)
  have hd : Sha.rotr 19 x = x / 524288 + x % 524288 * 8192 := rfl
  have hb := Sha.rotr_bd h0 h1 19 (by decide)
  rw [hd] at hb ⊢
  go_enter Tryd.func89, Tryd.ntmps89
  go_wp2
  go_ret
  refine ⟨ret_int ?_, rfl⟩
  omega
theorem rotl_22 (x : Int) (w : World) (h0 : 0 ≤ x) (h1 : x ≤ 4294967295) : Calls Tryd.prog 90 #[.int .u32 x, .int .i64 (-22)] w fun e w' => e = .returned (.int .u32 (Sha.rotr 22 x)) ∧ w = w' := by
  have hr : bits .or .u32 (x * 1024 % 4294967296) (x / 4194304) = Sha.rotr 22 x := Sha.rotr_or h0 h1 22 (by decide) (by decide)
  have hk : bits .and .u64 (IntKind.u64.wrap (-22)) 31 = 10 := by decide
  go_enter Tryd.func90, Tryd.ntmps90
  go_wp2
  go_ret
  exact ⟨rfl, rfl⟩
theorem turn_22 (x : Int) (w : World) (h0 : 0 ≤ x) (h1 : x ≤ 4294967295) : Calls Tryd.prog 88 #[.int .u32 x, .int .i64 22] w fun e w' => e = .returned (.int .u32 (Sha.rotr 22 x)) ∧ w = w' := by
  go_enter Tryd.func88, Tryd.ntmps88
  go_wp2_with (go_at_call 90; refine (rotl_22 x _ h0 h1).mono ?_; rintro e w' ⟨rfl, rfl⟩)
  go_ret
  exact ⟨rfl, rfl⟩
theorem rrotr_22 (x : Int) (w : World) (h0 : 0 ≤ x) (h1 : x ≤ 4294967295) : Calls Tryd.prog 89 #[.int .u32 x, .int .u64 22] w fun e w' => e = .returned (.int .u32 (Sha.rotr 22 x)) ∧ w = w' := by
  have hr : x * 1024 % 4294967296 = x % 4194304 * 1024 := Sha.low_up x 22 (by decide)
  have hd : Sha.rotr 22 x = x / 4194304 + x % 4194304 * 1024 := rfl
  have hb := Sha.rotr_bd h0 h1 22 (by decide)
  rw [hd] at hb ⊢
  go_enter Tryd.func89, Tryd.ntmps89
  go_wp2
  go_ret
  refine ⟨ret_int ?_, rfl⟩
  omega
theorem rotl_25 (x : Int) (w : World) (h0 : 0 ≤ x) (h1 : x ≤ 4294967295) : Calls Tryd.prog 90 #[.int .u32 x, .int .i64 (-25)] w fun e w' => e = .returned (.int .u32 (Sha.rotr 25 x)) ∧ w = w' := by
  have hr : bits .or .u32 (x * 128 % 4294967296) (x / 33554432) = Sha.rotr 25 x := Sha.rotr_or h0 h1 25 (by decide) (by decide)
  have hk : bits .and .u64 (IntKind.u64.wrap (-25)) 31 = 7 := by decide
  go_enter Tryd.func90, Tryd.ntmps90
  go_wp2
  go_ret
  exact ⟨rfl, rfl⟩
theorem turn_25 (x : Int) (w : World) (h0 : 0 ≤ x) (h1 : x ≤ 4294967295) : Calls Tryd.prog 88 #[.int .u32 x, .int .i64 25] w fun e w' => e = .returned (.int .u32 (Sha.rotr 25 x)) ∧ w = w' := by
  go_enter Tryd.func88, Tryd.ntmps88
  go_wp2_with (go_at_call 90; refine (rotl_25 x _ h0 h1).mono ?_; rintro e w' ⟨rfl, rfl⟩)
  go_ret
  exact ⟨rfl, rfl⟩
theorem rrotr_25 (x : Int) (w : World) (h0 : 0 ≤ x) (h1 : x ≤ 4294967295) : Calls Tryd.prog 89 #[.int .u32 x, .int .u64 25] w fun e w' => e = .returned (.int .u32 (Sha.rotr 25 x)) ∧ w = w' := by
  have hr : x * 128 % 4294967296 = x % 33554432 * 128 := Sha.low_up x 25 (by decide)
  have hd : Sha.rotr 25 x = x / 33554432 + x % 33554432 * 128 := rfl
  have hb := Sha.rotr_bd h0 h1 25 (by decide)
  rw [hd] at hb ⊢
  go_enter Tryd.func89, Tryd.ntmps89
  go_wp2
  go_ret
  refine ⟨ret_int ?_, rfl⟩
  omega
end Go.Proofs.YtpidpbjbgjkaaaaDoor
