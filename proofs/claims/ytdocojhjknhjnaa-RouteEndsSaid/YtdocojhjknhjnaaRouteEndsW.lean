/- The walk of RouteEnds. -/
import Derived.Test.YtdocojhjknhjnaaRouteAwake
namespace Go.Proofs.Ytdocojhjknhjnaa
open Go.RowKit
set_option linter.unusedVariables false
theorem Net.in_zero {a n : Int} (a0 : 0 ≤ a) (a1 : a ≤ 4294967295) (n0 : 0 ≤ n) (n1 : n ≤ 4294967295) : Net.inB a n 0 = true := by
  rw [Route.inB_iff]
  refine ⟨by omega, by omega, ?_⟩
  show a / 2 ^ 32 = n / 2 ^ 32
  omega
theorem Net.in_whole (a n : Int) : Net.inB a n 32 = (a == n) := by
  rw [Bool.eq_iff_iff, Route.inB_iff, beq_iff_eq]
  show (0 ≤ 32 ∧ 32 ≤ 32 ∧ a / 2 ^ 0 = n / 2 ^ 0) ↔ a = n
  simp
theorem Net.in_sym (a n b : Int) : Net.inB n a b = Net.inB a n b := by
  rw [Bool.eq_iff_iff, Route.inB_iff, Route.inB_iff]
  exact ⟨fun h => ⟨h.1, h.2.1, h.2.2.symm⟩, fun h => ⟨h.1, h.2.1, h.2.2.symm⟩⟩
theorem Net.in_less {a n b c : Int} (h : Net.inB a n b = true) (hc : 0 ≤ c) (hcb : c ≤ b) : Net.inB a n c = true := by
  rw [Route.inB_iff] at h ⊢
  refine ⟨hc, by omega, ?_⟩
  obtain ⟨k, hk⟩ : ∃ k, 32 - c.toNat = 32 - b.toNat + k := ⟨b.toNat - c.toNat, by omega⟩
  have hd : ∀ k (x : Int), x / 2 ^ (32 - b.toNat + k) = x / 2 ^ (32 - b.toNat) / 2 ^ k := by
    intro k
    induction k with
    | zero => intro x; simp
    | succ k ih => intro x; rw [← Nat.add_assoc, ← Net.half, ih, Net.half]
  rw [hk, hd, hd, h.2.2]
theorem Net.in_over (a n : Int) : Net.inB a n 33 = false := by unfold Net.inB; simp
set_option maxHeartbeats 4000000 in
theorem route_ends (a n b fw : Int) (w : World) (a0 : 0 ≤ a) (a1 : a ≤ 4294967295) (n0 : 0 ≤ n) (n1 : n ≤ 4294967295) (b0 : 0 ≤ b) (b1 : b ≤ 255) (f0 : 0 ≤ fw) (f1 : fw ≤ 255) :
    Calls Try.prog 10 #[.int .u32 a, .int .u32 n, .int .u8 b, .int .u8 fw] w fun e w' => e = .returned (.bool true) ∧ Below w.heap.size w w' := by
  obtain ⟨N, hN⟩ : ∃ N, b % 33 = N := ⟨_, rfl⟩
  have N0 : 0 ≤ N := by omega
  have N1 : N ≤ 32 := by omega
  obtain ⟨F, hF⟩ : ∃ F, fw % (N + 1) = F := ⟨_, rfl⟩
  have F0 : 0 ≤ F := by rw [← hF]; exact Int.emod_nonneg _ (by omega)
  have F1 : F < N + 1 := by rw [← hF]; exact Int.emod_lt_of_pos _ (by omega)
  have i0 : ∀ W, Calls Try.prog 26 #[.int .u32 a, .int .u32 n, .int .i64 0] W fun e w' => e = .returned (.bool true) ∧ W = w' := fun W => by
    have := in_spec a n 0 W a0 a1 n0 n1; rwa [Net.in_zero a0 a1 n0 n1] at this
  have i1 : ∀ W, Calls Try.prog 26 #[.int .u32 a, .int .u32 n, .int .i64 32] W fun e w' => e = .returned (.bool (a == n)) ∧ W = w' := fun W => by
    have := in_spec a n 32 W a0 a1 n0 n1; rwa [Net.in_whole] at this
  have i2 : ∀ W, Calls Try.prog 26 #[.int .u32 a, .int .u32 n, .int .i64 N] W fun e w' => e = .returned (.bool (Net.inB a n N)) ∧ W = w' := fun W => in_spec a n N W a0 a1 n0 n1
  have i3 : ∀ W, Calls Try.prog 26 #[.int .u32 a, .int .u32 n, .int .i64 (N - F)] W fun e w' => e = .returned (.bool (Net.inB a n (N - F))) ∧ W = w' := fun W => in_spec a n (N - F) W a0 a1 n0 n1
  have i4 : ∀ W, Calls Try.prog 26 #[.int .u32 n, .int .u32 a, .int .i64 N] W fun e w' => e = .returned (.bool (Net.inB a n N)) ∧ W = w' := fun W => by
    have := in_spec n a N W n0 n1 a0 a1; rwa [Net.in_sym] at this
  have i5 : ∀ W, Calls Try.prog 26 #[.int .u32 a, .int .u32 n, .int .i64 33] W fun e w' => e = .returned (.bool false) ∧ W = w' := fun W => by
    have := in_spec a n 33 W a0 a1 n0 n1; rwa [Net.in_over] at this
  have hless : Net.inB a n N = true → Net.inB a n (N - F) = true := fun h => Net.in_less h (by omega) (by omega)
  cases hx : Net.inB a n N
  · rw [hx] at i2 i4
    clear hless i3 hx
    have hq : ((a == n) == (a == n)) = true := by simp
    go_enter Try.func10, Try.ntmps10
    go_wp2_with (go_at_call 19; refine (route_awake _).mono ?_; rintro e w1 ⟨rfl, hb1⟩)
    refine (i0 _).mono ?_
    rintro e w' ⟨rfl, rfl⟩
    go_wp2_with fail
    refine (i1 _).mono ?_
    rintro e w' ⟨rfl, rfl⟩
    go_wp2_with fail
    refine (i2 _).mono ?_
    rintro e w' ⟨rfl, rfl⟩
    go_wp2_with fail
    refine (i4 _).mono ?_
    rintro e w' ⟨rfl, rfl⟩
    go_wp2_with fail
    refine (i2 _).mono ?_
    rintro e w' ⟨rfl, rfl⟩
    go_wp2_with fail
    refine (i5 _).mono ?_
    rintro e w' ⟨rfl, rfl⟩
    go_wp2
    go_ret
    exact ⟨rfl, hb1⟩
  · rw [hx] at i2 i4
    rw [hless hx] at i3
    clear hless hx
    have hq : ((a == n) == (a == n)) = true := by simp
    go_enter Try.func10, Try.ntmps10
    go_wp2_with (go_at_call 19; refine (route_awake _).mono ?_; rintro e w1 ⟨rfl, hb1⟩)
    refine (i0 _).mono ?_
    rintro e w' ⟨rfl, rfl⟩
    go_wp2_with fail
    refine (i1 _).mono ?_
    rintro e w' ⟨rfl, rfl⟩
    go_wp2_with fail
    refine (i2 _).mono ?_
    rintro e w' ⟨rfl, rfl⟩
    go_wp2_with fail
    refine (i3 _).mono ?_
    rintro e w' ⟨rfl, rfl⟩
    go_wp2_with fail
    refine (i4 _).mono ?_
    rintro e w' ⟨rfl, rfl⟩
    go_wp2_with fail
    refine (i2 _).mono ?_
    rintro e w' ⟨rfl, rfl⟩
    go_wp2_with fail
    refine (i5 _).mono ?_
    rintro e w' ⟨rfl, rfl⟩
    go_wp2
    go_ret
    exact ⟨rfl, hb1⟩
theorem RouteEnds_walk (a n b fw : Int) (w : World) (wa : (Lit.int .u32 a).wf = true) (wn : (Lit.int .u32 n).wf = true) (wb : (Lit.int .u8 b).wf = true) (wf : (Lit.int .u8 fw).wf = true) :
    Calls Try.prog 10 #[.int .u32 a, .int .u32 n, .int .u8 b, .int .u8 fw] w fun e w' => e = .returned (.bool true) ∧ Below w.heap.size w w' :=
  route_ends a n b fw w (bounds_u32 wa).1 (bounds_u32 wa).2 (bounds_u32 wn).1 (bounds_u32 wn).2 (bounds_u8 wb).1 (bounds_u8 wb).2 (bounds_u8 wf).1 (bounds_u8 wf).2
end Go.Proofs.Ytdocojhjknhjnaa
