/- The walks of route.may, route.Right (with its closure). -/
import Derived.Test.YtdocojhjknhjnaaRouteLoops
import Derived.BigQuiet
namespace Go.Proofs.Ytdocojhjknhjnaa
open Go.RowKit
set_option linter.unusedVariables false
theorem net_zero (n b : Int) (h0 : 0 ≤ b) (h1 : b ≤ 32) (n0 : 0 ≤ n) (n1 : n ≤ 4294967295) : (bits .andNot .u32 n (Net.mask b) == 0) = decide (n % 2 ^ (32 - b.toNat) = 0) := by
  obtain ⟨x, rfl⟩ := Int.eq_ofNat_of_zero_le n0
  obtain ⟨k, rfl⟩ := Int.eq_ofNat_of_zero_le h0
  have hm : Net.mask (k : Int) = (((4294967295 * 2 ^ (32 - k)) % 4294967296 : Nat) : Int) := by
    unfold Net.mask
    simp
  have hs : 4294967295 - (4294967295 * 2 ^ (32 - k)) % 4294967296 = 2 ^ (32 - k) - 1 := by
    have : k = 0 ∨ k = 1 ∨ k = 2 ∨ k = 3 ∨ k = 4 ∨ k = 5 ∨ k = 6 ∨ k = 7 ∨ k = 8 ∨ k = 9 ∨ k = 10 ∨ k = 11 ∨ k = 12 ∨ k = 13 ∨ k = 14 ∨ k = 15 ∨ k = 16 ∨ k = 17 ∨ k = 18 ∨ k = 19 ∨ k = 20 ∨ k = 21 ∨ k = 22 ∨ k = 23 ∨ k = 24 ∨ k = 25 ∨ k = 26 ∨ k = 27 ∨ k = 28 ∨ k = 29 ∨ k = 30 ∨ k = 31 ∨ k = 32 := by omega
    rcases this with rfl | rfl | rfl | rfl | rfl | rfl | rfl | rfl | rfl | rfl | rfl | rfl | rfl | rfl | rfl | rfl | rfl | rfl | rfl | rfl | rfl | rfl | rfl | rfl | rfl | rfl | rfl | rfl | rfl | rfl | rfl | rfl | rfl <;> rfl
  rw [hm, u32_andNot_nat _ _ (by omega) (by omega), hs, Nat.and_two_pow_sub_one_eq_mod]
  rw [Bool.eq_iff_iff, beq_iff_eq, decide_eq_true_eq, Int.toNat_natCast]
  have e : ((x : Int) % 2 ^ (32 - k)) = ((x % 2 ^ (32 - k) : Nat) : Int) := by push_cast; rfl
  rw [e]
set_option maxHeartbeats 1000000 in
theorem tmay_spec (r : Route.R) (w : World) (hr : r.wf) :
    Calls Try.prog 37 #[.agg #[.int .u32 r.net, .int .i64 r.bits, .int .i64 r.zone, .int .i64 r.mtu]] w fun e w' => e = .returned (.bool (Route.mayB r)) ∧ Below w.heap.size w w' := by
  obtain ⟨n0, n1⟩ := hr
  have hB : ∀ q, Below w.heap.size w ((w.alloc (.cells #[.int .u32 r.net, .int .i64 r.bits, .int .i64 r.zone, .int .i64 r.mtu] 40)).drewN q) := fun q => below_drewN ((Below.refl _ _).alloc (Nat.le_refl _) _) q
  by_cases h0 : 0 ≤ r.bits
  · by_cases h1 : r.bits ≤ 32
    · have hz := net_zero r.net r.bits h0 h1 n0 n1
      obtain ⟨m, hm⟩ : ∃ m, m = Net.mask r.bits := ⟨_, rfl⟩
      rw [← hm] at hz
      have hmay : Route.mayB r = (decide (r.net % 2 ^ (32 - r.bits.toNat) = 0) && Rules.withinB r.zone 0 7 && Rules.withinB r.mtu 68 65535) := by
        unfold Route.mayB
        rw [show Rules.withinB r.bits 0 32 = true by simp [Rules.withinB, h0, h1], Bool.true_and]
      have hmask : ∀ q, Calls Try.prog 40 #[.int .i64 r.bits] ((w.alloc (.cells #[.int .u32 r.net, .int .i64 r.bits, .int .i64 r.zone, .int .i64 r.mtu] 40)).drewN q) (fun e w'' => e = .returned (.int .u32 m) ∧ ∃ k, w'' = (w.alloc (.cells #[.int .u32 r.net, .int .i64 r.bits, .int .i64 r.zone, .int .i64 r.mtu] 40)).drewN k) := fun q => by
        rw [hm]; exact (mask_spec r.bits ((w.alloc (.cells #[.int .u32 r.net, .int .i64 r.bits, .int .i64 r.zone, .int .i64 r.mtu] 40)).drewN q) h0 h1).mono fun e w1 ⟨h, h2⟩ => ⟨h, q, h2.symm⟩
      have HM := Lib.hid hmask
      clear hmask
      rw [← hz] at hmay
      clear hz hm
      cases c2 : (bits .andNot .u32 r.net m == 0)
      · rw [c2] at hmay
        rw [show Route.mayB r = false by rw [hmay]; simp]
        clear hmay
        (go_enter Try.func37, Try.ntmps37; go_wp2_with fail; go_quiet ((with_reducible exact HM.out _)); go_wp2; go_ret; exact ⟨rfl, by first | exact hB _ | exact hB 0⟩)
      · rw [c2, Bool.true_and] at hmay
        by_cases c3 : 0 ≤ r.zone
        · by_cases c4 : r.zone < 8
          · rw [show Rules.withinB r.zone 0 7 = true by simp [Rules.withinB, c3]; omega, Bool.true_and] at hmay
            by_cases c5 : 68 ≤ r.mtu
            · by_cases c6 : r.mtu ≤ 65535
              · rw [show Route.mayB r = true by rw [hmay]; simp [Rules.withinB, c5, c6]]
                clear hmay
                (go_enter Try.func37, Try.ntmps37; go_wp2_with fail; go_quiet ((with_reducible exact HM.out _)); go_wp2; go_ret; exact ⟨rfl, by first | exact hB _ | exact hB 0⟩)
              · have c6' : decide (r.mtu ≤ 65535) = false := by simp; omega
                rw [show Route.mayB r = false by rw [hmay]; simp [Rules.withinB, c6]]
                clear hmay c6
                (go_enter Try.func37, Try.ntmps37; go_wp2_with fail; go_quiet ((with_reducible exact HM.out _)); go_wp2; go_ret; exact ⟨rfl, by first | exact hB _ | exact hB 0⟩)
            · have c5' : decide (68 ≤ r.mtu) = false := by simp; omega
              rw [show Route.mayB r = false by rw [hmay]; simp [Rules.withinB, c5]]
              clear hmay c5
              (go_enter Try.func37, Try.ntmps37; go_wp2_with fail; go_quiet ((with_reducible exact HM.out _)); go_wp2; go_ret; exact ⟨rfl, by first | exact hB _ | exact hB 0⟩)
          · have c4' : decide (r.zone < 8) = false := by simp; omega
            rw [show Route.mayB r = false by rw [hmay, show Rules.withinB r.zone 0 7 = false by simp [Rules.withinB]; omega]; simp]
            clear hmay c4
            (go_enter Try.func37, Try.ntmps37; go_wp2_with fail; go_quiet ((with_reducible exact HM.out _)); go_wp2; go_ret; exact ⟨rfl, by first | exact hB _ | exact hB 0⟩)
        · have c3' : decide (0 ≤ r.zone) = false := by simp; omega
          rw [show Route.mayB r = false by rw [hmay, show Rules.withinB r.zone 0 7 = false by simp [Rules.withinB]; omega]; simp]
          clear hmay c3
          (go_enter Try.func37, Try.ntmps37; go_wp2_with fail; go_quiet ((with_reducible exact HM.out _)); go_wp2; go_ret; exact ⟨rfl, by first | exact hB _ | exact hB 0⟩)
    · have h1' : decide (r.bits ≤ 32) = false := by simp; omega
      rw [show Route.mayB r = false by unfold Route.mayB; rw [show Rules.withinB r.bits 0 32 = false by simp [Rules.withinB, h1]]; simp]
      clear h1
      (go_enter Try.func37, Try.ntmps37; go_wp2_with fail; go_quiet (fail); go_wp2; go_ret; exact ⟨rfl, by first | exact hB _ | exact hB 0⟩)
  · have h0' : decide (0 ≤ r.bits) = false := by simp; omega
    rw [show Route.mayB r = false by unfold Route.mayB; rw [show Rules.withinB r.bits 0 32 = false by simp [Rules.withinB, h0]]; simp]
    clear h0
    (go_enter Try.func37, Try.ntmps37; go_wp2_with fail; go_quiet (fail); go_wp2; go_ret; exact ⟨rfl, by first | exact hB _ | exact hB 0⟩)
end Go.Proofs.Ytdocojhjknhjnaa
