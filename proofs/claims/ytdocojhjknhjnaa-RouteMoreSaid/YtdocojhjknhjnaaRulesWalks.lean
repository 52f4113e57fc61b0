/- The walks of the leaves of packages rules and route. -/
import Derived.Test.YtdocojhjknhjnaaChecked
import Derived.Test.YtdocojhjknhjnaaRulesPlain
import Derived.Test.YtdocojhjknhjnaaOwn
import Derived.Laws.BitsAllLaws
namespace Go.Proofs.Ytdocojhjknhjnaa
open Go.RowKit
set_option linter.unusedVariables false
theorem within_spec (n a b : Int) (w : World) :
    Calls Try.prog 34 #[.int .i64 n, .int .i64 a, .int .i64 b] w fun e w' => e = .returned (.bool (Rules.withinB n a b)) ∧ w = w' := by
  unfold Rules.withinB
  go_enter Try.func34, Try.ntmps34
  go_wp2
  all_goals
    go_ret
    exact ⟨ret_bool (by first | (simp_all; done) | (simp_all; intros; omega)), rfl⟩
theorem mask_spec (b : Int) (w : World) (h0 : 0 ≤ b) (h1 : b ≤ 32) :
    Calls Try.prog 40 #[.int .i64 b] w fun e w' => e = .returned (.int .u32 (Net.mask b)) ∧ w = w' := by
  unfold Net.mask
  go_enter Try.func40, Try.ntmps40
  go_wp2
  go_ret
  exact ⟨ret_int (by rw [show (32 - b).toNat = 32 - b.toNat by omega]), rfl⟩
theorem net_eq (a n b : Int) (h0 : 0 ≤ b) (h1 : b ≤ 32) (a0 : 0 ≤ a) (a1 : a ≤ 4294967295) (n0 : 0 ≤ n) (n1 : n ≤ 4294967295) :
    (bits .and .u32 (bits .xor .u32 a n) (Net.mask b) == 0) = decide (a / 2 ^ (32 - b.toNat) = n / 2 ^ (32 - b.toNat)) := by
  obtain ⟨x, rfl⟩ := Int.eq_ofNat_of_zero_le a0
  obtain ⟨y, rfl⟩ := Int.eq_ofNat_of_zero_le n0
  obtain ⟨k, rfl⟩ := Int.eq_ofNat_of_zero_le h0
  have hm : Net.mask (k : Int) = (((4294967295 * 2 ^ (32 - k)) % 4294967296 : Nat) : Int) := by
    unfold Net.mask
    simp
  rw [hm, nat_mask _ (by omega), u32_xor_nat _ _ (by omega) (by omega), u32_and_nat _ _ (Nat.xor_lt_two_pow (n := 32) (by omega) (by omega)) (by rw [← nat_mask _ (by omega)]; exact Nat.mod_lt _ (by decide))]
  have h := nat_net x y (32 - k) (by omega) (by omega) (by omega)
  rw [Bool.eq_iff_iff, beq_iff_eq, decide_eq_true_eq]
  have e1 : (((x ^^^ y) &&& ((2 ^ (32 - (32 - k)) - 1) <<< (32 - k)) : Nat) : Int) = 0 ↔ ((x ^^^ y) &&& ((2 ^ (32 - (32 - k)) - 1) <<< (32 - k))) = 0 := by omega
  rw [e1, h]
  have e2 : ∀ z : Nat, (z : Int) / 2 ^ (32 - (k : Int).toNat) = ((z / 2 ^ (32 - k) : Nat) : Int) := by intro z; simp
  rw [e2, e2]
  omega
theorem in_spec (a n b : Int) (w : World) (a0 : 0 ≤ a) (a1 : a ≤ 4294967295) (n0 : 0 ≤ n) (n1 : n ≤ 4294967295) :
    Calls Try.prog 26 #[.int .u32 a, .int .u32 n, .int .i64 b] w fun e w' => e = .returned (.bool (Net.inB a n b)) ∧ w = w' := by
  unfold Net.inB
  by_cases h0 : 0 ≤ b
  · by_cases h1 : b ≤ 32
    · have h2 := net_eq a n b h0 h1 a0 a1 n0 n1
      have h3 : Net.mask b = Net.mask b := rfl
      obtain ⟨m, hm⟩ : ∃ m, m = Net.mask b := ⟨_, rfl⟩
      rw [← hm] at h2
      have HM := Lib.hid hm
      rw [← h2]
      clear hm h2 h3
      go_enter Try.func26, Try.ntmps26
      go_wp2_with (go_at_call 40; refine (mask_spec b _ h0 h1).mono ?_; rintro e w' ⟨rfl, rfl⟩)
      rw [← HM.out]
      go_wp2
      go_ret
      exact ⟨ret_bool (by simp_all), rfl⟩
    · have h2 : decide (b ≤ 32) = false := by simp; omega
      rw [h2]
      go_enter Try.func26, Try.ntmps26
      go_wp2
      go_ret
      exact ⟨ret_bool (by simp), rfl⟩
  · have h2 : decide (0 ≤ b) = false := by simp; omega
    rw [h2]
    go_enter Try.func26, Try.ntmps26
    go_wp2
    go_ret
    exact ⟨ret_bool (by simp), rfl⟩
theorem zones_spec (r : Rules.Rule) (fr to : Int) (w : World) :
    Calls Try.prog 33 #[.agg #[.int .i64 r.fr, .int .i64 r.to, .int .i64 r.proto, .int .u32 r.src, .int .u32 r.dst, .int .i64 r.sb, .int .i64 r.db, .int .i64 r.lo, .int .i64 r.hi, .int .i64 r.act], .int .i64 fr, .int .i64 to] w fun e w' => e = .returned (.bool (Rules.zonesB r fr to)) ∧ Below w.heap.size w w' := by
  unfold Rules.zonesB
  cases h1 : (r.fr == -1) <;> cases h2 : (r.fr == fr) <;> cases h3 : (r.to == -1) <;> cases h4 : (r.to == to)
  all_goals
    go_enter Try.func33, Try.ntmps33
    go_wp2
    go_ret
    exact ⟨ret_bool (by simp), (Below.refl _ _).alloc (Nat.le_refl _) _⟩
theorem rmay_spec (r : Rules.Rule) (w : World) :
    Calls Try.prog 32 #[.agg #[.int .i64 r.fr, .int .i64 r.to, .int .i64 r.proto, .int .u32 r.src, .int .u32 r.dst, .int .i64 r.sb, .int .i64 r.db, .int .i64 r.lo, .int .i64 r.hi, .int .i64 r.act]] w fun e w' => e = .returned (.bool (Rules.mayB r)) ∧ Below w.heap.size w w' := by
  unfold Rules.mayB
  obtain ⟨r1, r2, r3, r4, r5, r6, r7, r8, r9, r10⟩ := r
  go_enter Try.func32, Try.ntmps32
  go_wp2_with (first | (go_at_call 34; refine (within_spec _ _ _ _).mono ?_; rintro e w' ⟨rfl, rfl⟩))
  all_goals
    go_ret
    exact ⟨ret_bool (by first | (simp_all; done) | (simp_all; intros; omega)), (Below.refl _ _).alloc (Nat.le_refl _) _⟩
theorem rmayNot_spec (r : Rules.Rule) (w : World) :
    Calls Try.prog 31 #[.agg #[.int .i64 r.fr, .int .i64 r.to, .int .i64 r.proto, .int .u32 r.src, .int .u32 r.dst, .int .i64 r.sb, .int .i64 r.db, .int .i64 r.lo, .int .i64 r.hi, .int .i64 r.act]] w fun e w' => e = .returned (.bool (!Rules.mayB r)) ∧ Below w.heap.size w w' := by
  go_enter Try.func31, Try.ntmps31
  go_wp2_with fail
  refine (rmay_spec r _).mono ?_
  rintro e w1 ⟨rfl, hb1⟩
  go_wp2
  go_ret
  exact ⟨rfl, bel_then ((Below.refl _ _).alloc (Nat.le_refl _) _) hb1⟩
end Go.Proofs.Ytdocojhjknhjnaa
