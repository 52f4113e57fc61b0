/- The walks of the reference's small functions for a connection: one, Wrap, Dist, Lasts, Right. -/
import Derived.Test.YtliibpajgdncpaaStateLasts
import Derived.Test.YtliibpajgdncpaaStateSeq
import Derived.Test.YtliibpajgdncpaaStateRightP
import Derived.Test.YtliibpajgdncpaaBlk
import Derived.Deep.RegionHeld3
import Derived.Deep.DeepCutAuto
import Derived.BigQuiet
namespace Go.Proofs.Ytliibpajgdncpaa
open Go.RowKit
set_option linter.unusedVariables false
theorem rone_spec (b : Bool) (w : World) :
    Calls Try.prog 30 #[.bool b] w fun e w' => e = .returned (.int .i64 (State.bi b)) ∧ w = w' := by
  go_enter Try.func30, Try.ntmps30
  cases b
  · go_wp2
    go_ret
    exact ⟨rfl, rfl⟩
  · go_wp2
    go_ret
    exact ⟨rfl, rfl⟩
set_option maxHeartbeats 400000 in
theorem rwrap_spec (x : Int) (w : World) (h0 : 0 ≤ x) (h1 : x ≤ 9223372036854775807) :
    Calls Try.prog 28 #[.int .i64 x] w fun e w' => e = .returned (.int .u32 (x % 4294967296)) ∧ w = w' := by
  have hx : 0 ≤ x % 4294967296 := by omega
  go_enter Try.func28, Try.ntmps28
  go_wp2
  go_ret
  exact ⟨ret_int (by omega), rfl⟩
set_option maxHeartbeats 400000 in
theorem rdist_spec (a b : Int) (w : World) (ha : 0 ≤ a ∧ a ≤ 4294967295) (hb : 0 ≤ b ∧ b ≤ 4294967295) :
    Calls Try.prog 29 #[.int .u32 a, .int .u32 b] w fun e w' => e = .returned (.int .i64 (Seq.dist a b)) ∧ w = w' := by
  obtain ⟨ha, ha1⟩ := ha
  obtain ⟨hb, hb1⟩ := hb
  go_enter Try.func29, Try.ntmps29
  go_wp2
  all_goals
    go_ret
    exact ⟨ret_int (by unfold Seq.dist wrap64 wrap32; omega), rfl⟩
set_option maxHeartbeats 1000000 in
theorem rlasts_spec (st tcp : Int) (w : World) (h0 : -9223372036854775808 ≤ tcp) (h1 : tcp ≤ 9223372036854775807) :
    Calls Try.prog 17 #[.int .i64 st, .int .i64 tcp] w fun e w' => e = .returned (.int .i64 (State.lasts st tcp)) ∧ w = w' := by
  have HL : Hid (State.lasts st tcp = (let t := if tcp < 1 then 1 else tcp; if st = 3 then t else if st = 0 ∨ st = 7 then 1 else if st = 1 ∨ st = 2 ∨ st = 4 ∨ st = 5 ∨ st = 6 then t / 8 + 1 else 0)) := Lib.hid rfl
  generalize State.lasts st tcp = r at HL ⊢
  go_enter Try.func17, Try.ntmps17
  by_cases ht : tcp < 1
  all_goals
    by_cases hlo : st < 0
    · go_wp2
      go_ret
      exact ⟨ret_int (by rw [HL.out, if_neg (by omega), if_neg (by omega), if_neg (by omega)]), rfl⟩
    by_cases hhi : 7 < st
    · go_wp2
      go_ret
      exact ⟨ret_int (by rw [HL.out, if_neg (by omega), if_neg (by omega), if_neg (by omega)]), rfl⟩
    rcases (show st = 0 ∨ st = 1 ∨ st = 2 ∨ st = 3 ∨ st = 4 ∨ st = 5 ∨ st = 6 ∨ st = 7 by omega) with rfl | rfl | rfl | rfl | rfl | rfl | rfl | rfl
    all_goals
      go_wp2
      go_ret
      exact ⟨ret_int (by rw [HL.out]; first | simp [show ¬ tcp < 1 by omega] | simp [show tcp < 1 by omega]), rfl⟩
theorem State.right_ref {c : State.C} (h0 : State.sideB c.f0 c.a0 c.k0 = true) (h1 : State.sideB c.f1 c.a1 c.k1 = true) :
    State.rightB c = if 0 ≤ c.st ∧ c.st ≤ 3 then State.fins c == 0 else (c.st == 4 && State.fins c == 1) || (c.st == 5 && State.fins c == 2 && !(c.k0 && c.k1)) || (c.st == 6 && (c.k0 && c.k1)) || c.st == 7 := by
  obtain ⟨st, f0, f1, a0, a1, k0, k1⟩ := c
  unfold State.rightB
  simp only at h0 h1
  simp only [h0, h1, Bool.true_and]
  by_cases hs : 0 ≤ st ∧ st ≤ 3
  · rw [if_pos hs, if_pos (by omega)]
  · rw [if_neg hs, if_neg (by omega)]
    have c4 : st = 4 ∨ st = 5 ∨ st = 6 ∨ st = 7 ∨ (st ≠ 4 ∧ st ≠ 5 ∧ st ≠ 6 ∧ st ≠ 7) := by omega
    rcases c4 with rfl | rfl | rfl | rfl | ⟨g4, g5, g6, g7⟩
    · cases f0 <;> cases f1 <;> cases k0 <;> cases k1 <;> simp [State.sideB, State.fins, State.bi] at h0 h1 ⊢
    · cases f0 <;> cases f1 <;> cases k0 <;> cases k1 <;> simp [State.sideB, State.fins, State.acks, State.bi] at h0 h1 ⊢
    · cases f0 <;> cases f1 <;> cases k0 <;> cases k1 <;> simp [State.sideB, State.fins, State.acks, State.bi] at h0 h1 ⊢
    · simp
    · rw [if_neg g4, if_neg g5, if_neg g6]
      simp [g4, g5, g6]
set_option maxRecDepth 4000 in
set_option maxHeartbeats 4000000 in
theorem rright_spec (c : State.C) (w : World) (ha : 0 ≤ c.a0 ∧ 0 ≤ c.a1) :
    Calls Try.prog 15 #[.agg #[.int .i64 c.st, .bool c.f0, .bool c.f1, .int .u32 c.a0, .int .u32 c.a1, .bool c.k0, .bool c.k1]] w fun e w' => e = .returned (.bool (State.rightB c)) ∧ Below w.heap.size w w' := by
  obtain ⟨W, hW⟩ : ∃ W, W = w.alloc (.cells #[.int .i64 c.st, .bool c.f0, .bool c.f1, .int .u32 c.a0, .int .u32 c.a1, .bool c.k0, .bool c.k1] 26) := ⟨_, rfl⟩
  have hbW : Below w.heap.size w W := by rw [hW]; exact (Below.refl _ _).alloc (Nat.le_refl _) _
  have HC := Lib.hid (conn_cells w c 26 _ rfl)
  have hWc : w.alloc (.cells c.cells.toArray 26) = W := hW.symm
  obtain ⟨b0, b1, b2, b3, b4, b5, b6⟩ := HC.out
  rw [hWc] at b0 b1 b2 b3 b4 b5 b6
  have hgW : w.heap.size < W.heap.size := by rw [hW]; simp
  have HN : ∀ i, (i = 0 → State.sideB c.f0 c.a0 c.k0 = false) → (i = 1 → State.sideB c.f1 c.a1 c.k1 = false) → (i = 0 ∨ i = 1) → State.rightB c = false := by
    intro i h0 h1 h
    unfold State.rightB
    rcases h with h | h
    · rw [h0 h]; rfl
    · rw [h1 h, Bool.and_false]; rfl
  have HNN := Lib.hid HN
  have HRR := Lib.hid (State.right_ref (c := c))
  obtain ⟨ha0, ha1⟩ := ha
  clear HC hWc HN
  obtain ⟨st, f0, f1, a0, a1, k0, k1⟩ := c
  simp only at b0 b1 b2 b3 b4 b5 b6 ha0 ha1
  go_enter Try.func15, Try.ntmps15
  go_wp2_with fail
  rw [← hW]
  clear hW
  go_loop [3] (fun i => ∃ k : Nat, k ≤ 2 ∧ i = .int .i64 k ∧ Hid ((1 ≤ k → State.sideB f0 a0 k0 = true) ∧ (2 ≤ k → State.sideB f1 a1 k1 = true))) (fun i => 2 - (intOf i).toNat)
  case atStart => exact ⟨0, by omega, rfl, Lib.hid ⟨fun h => by omega, fun h => by omega⟩⟩
  case round =>
    obtain ⟨k, hk, rfl, HS⟩ := hrel
    rcases (show k = 0 ∨ k = 1 ∨ k = 2 by omega) with rfl | rfl | rfl
    · cases hs : State.sideB f0 a0 k0
      · have HNo : Hid (State.rightB ⟨st, f0, f1, a0, a1, k0, k1⟩ = false) := Lib.hid (HNN.out 0 (fun h => hs) (fun h => by omega) (by omega))
        unfold State.sideB at hs
        cases f0
        · cases k0
          · have hz : 0 < a0 := by
              rcases Int.lt_or_le 0 a0 with h | h
              · exact h
              · exfalso
                have : a0 = 0 := by omega
                subst this
                simp at hs
            clear hs
            go_wp2
            go_ret
            exact ⟨ret_bool HNo.out.symm, hbW⟩
          · clear hs
            go_wp2
            go_ret
            exact ⟨ret_bool HNo.out.symm, hbW⟩
        · simp at hs
      · have HS1 : Hid ((1 ≤ 1 → State.sideB f0 a0 k0 = true) ∧ (2 ≤ 1 → State.sideB f1 a1 k1 = true)) := Lib.hid ⟨fun _ => hs, fun h => by omega⟩
        unfold State.sideB at hs
        cases f0
        · have hz : a0 = 0 ∧ k0 = false := by simpa using hs
          obtain ⟨rfl, rfl⟩ := hz
          clear hs
          go_wp2
          go_round
          case rel => exact ⟨1, by omega, rfl, by first | exact HS1 | exact Lib.hid ⟨fun _ => trivial, HS1.out.2⟩⟩
          case measure => simp [intOf]
        · clear hs
          go_wp2
          go_round
          case rel => exact ⟨1, by omega, rfl, by first | exact HS1 | exact Lib.hid ⟨fun _ => trivial, HS1.out.2⟩⟩
          case measure => simp [intOf]
    · cases hs : State.sideB f1 a1 k1
      · have HNo : Hid (State.rightB ⟨st, f0, f1, a0, a1, k0, k1⟩ = false) := Lib.hid (HNN.out 1 (fun h => by omega) (fun h => hs) (by omega))
        unfold State.sideB at hs
        cases f1
        · cases k1
          · have hz : 0 < a1 := by
              rcases Int.lt_or_le 0 a1 with h | h
              · exact h
              · exfalso
                have : a1 = 0 := by omega
                subst this
                simp at hs
            clear hs
            go_wp2
            go_ret
            exact ⟨ret_bool HNo.out.symm, hbW⟩
          · clear hs
            go_wp2
            go_ret
            exact ⟨ret_bool HNo.out.symm, hbW⟩
        · simp at hs
      · have HS1 : Hid ((1 ≤ 2 → State.sideB f0 a0 k0 = true) ∧ (2 ≤ 2 → State.sideB f1 a1 k1 = true)) := Lib.hid ⟨fun _ => HS.out.1 (by omega), fun h => hs⟩
        unfold State.sideB at hs
        cases f1
        · have hz : a1 = 0 ∧ k1 = false := by simpa using hs
          obtain ⟨rfl, rfl⟩ := hz
          clear hs
          go_wp2
          go_round
          case rel => exact ⟨2, by omega, rfl, by first | exact HS1 | exact Lib.hid ⟨HS1.out.1, fun _ => trivial⟩⟩
          case measure => simp [intOf]
        · clear hs
          go_wp2
          go_round
          case rel => exact ⟨2, by omega, rfl, by first | exact HS1 | exact Lib.hid ⟨HS1.out.1, fun _ => trivial⟩⟩
          case measure => simp [intOf]
    · obtain ⟨h0, h1⟩ := HS.out
      have h0' := h0 (by omega)
      have h1' := h1 (by omega)
      have HR := Lib.hid (HRR.out h0' h1')
      clear h0 h1 h0' h1' HRR HNN HS
      go_upto_region 6 with fail
      go_cut [4] (fun s4 wx => s4 = .int .i64 (State.fins ⟨st, f0, f1, a0, a1, k0, k1⟩) ∧ ∃ q, wx = W.drewN q)
      case first =>
        as_aux_lemma =>
        have H0 : Hid (∀ q, Calls Try.prog 30 #[.bool false] (W.drewN q) (fun e w'' => e = .returned (.int .i64 0) ∧ ∃ k, w'' = W.drewN k)) := Lib.hid fun q => (rone_spec false _).mono (fun e w' ⟨h1, h2⟩ => ⟨h1, q, h2.symm⟩)
        have H1 : Hid (∀ q, Calls Try.prog 30 #[.bool true] (W.drewN q) (fun e w'' => e = .returned (.int .i64 1) ∧ ∃ k, w'' = W.drewN k)) := Lib.hid fun q => (rone_spec true _).mono (fun e w' ⟨h1, h2⟩ => ⟨h1, q, h2.symm⟩)
        cases f0 <;> cases f1
        all_goals
          go_quiet ((with_reducible first | exact H0.out _ | exact H1.out _))
          go_wp2_with fail
          go_meet
          exact ⟨rfl, _, rfl⟩
      case rest =>
      obtain ⟨rfl, q, rfl⟩ := hcut
      go_upto_region 7 with fail
      go_cut [5] (fun s5 wx => s5 = .bool (k0 && k1) ∧ wx = W.drewN q)
      case first =>
        as_aux_lemma =>
        cases k0
        all_goals
          go_wp2_with fail
          go_meet
          exact ⟨rfl, rfl⟩
      case rest =>
      obtain ⟨rfl, rfl⟩ := hcut
      generalize State.fins ⟨st, f0, f1, a0, a1, k0, k1⟩ = N at HR ⊢
      generalize (k0 && k1) = both at HR ⊢
      clear b1 b2 b3 b4 b5 b6
      rcases (show st < 0 ∨ (0 ≤ st ∧ st ≤ 3) ∨ st = 4 ∨ st = 5 ∨ st = 6 ∨ st = 7 ∨ 7 < st by omega) with h | ⟨h, h'⟩ | rfl | rfl | rfl | rfl | h
      · go_wp2
        go_ret
        exact ⟨ret_bool (by rw [HR.out, if_neg (by omega)]; simp; omega), Below.drewN hbW _⟩
      · go_wp2
        go_ret
        exact ⟨ret_bool (by rw [HR.out, if_pos (by omega)]), Below.drewN hbW _⟩
      · cases hq : (N == 1)
        all_goals
          have HQ := Lib.hid hq
          go_wp2
          go_ret
          exact ⟨ret_bool (by rw [HR.out, if_neg (by omega), HQ.out]; simp), Below.drewN hbW _⟩
      · cases hq : (N == 2)
        all_goals
          have HQ := Lib.hid hq
          cases both
          all_goals
            go_wp2
            go_ret
            exact ⟨ret_bool (by rw [HR.out, if_neg (by omega), HQ.out]; simp), Below.drewN hbW _⟩
      · cases both
        all_goals
          go_wp2
          go_ret
          exact ⟨ret_bool (by rw [HR.out, if_neg (by omega)]; simp), Below.drewN hbW _⟩
      · go_wp2
        go_ret
        exact ⟨ret_bool (by rw [HR.out, if_neg (by omega)]; simp), Below.drewN hbW _⟩
      · go_wp2
        go_ret
        exact ⟨ret_bool (by rw [HR.out, if_neg (by omega)]; simp; omega), Below.drewN hbW _⟩
end Go.Proofs.Ytliibpajgdncpaa
