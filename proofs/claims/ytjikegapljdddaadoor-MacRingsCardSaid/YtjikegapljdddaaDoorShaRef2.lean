/- The walk of the reference's Bits (sha). -/
import Derived.Test.YtjikegapljdddaaDoorShaRef1
import Derived.Test.YtjikegapljdddaaDoorShaBitsF
namespace Go.Proofs.YtjikegapljdddaaDoor
open Go.RowKit
set_option linter.unusedVariables false
theorem Sha.bitsUp_bd (l : List Int) {n : Nat} (hn : n < 32) : 0 ≤ Sha.bitsUp (Sha.sum l) n ∧ Sha.bitsUp (Sha.sum l) n ≤ 2147483647 := by
  have h := Sha.wordAt_bd (Sha.sum_isB l) 0
  rw [Sha.bitsUp_eq (Sha.sum_isB l) n (by omega)]
  obtain ⟨k, hk⟩ : ∃ k, 32 - n = k + 1 := ⟨31 - n, by omega⟩
  have hp : (0 : Int) < 2 ^ k := Int.pow_pos (by decide)
  rw [hk, Int.pow_succ, Int.mul_comm, ← Int.ediv_ediv_of_nonneg (by decide)]
  exact ⟨Int.ediv_nonneg (by omega) (Int.le_of_lt hp), Int.le_trans (Int.ediv_le_self _ (by omega)) (by omega)⟩
set_option maxRecDepth 4000 in
set_option maxHeartbeats 4000000 in
theorem rbits_spec (A : Option Addr) (n c : Nat) (l : List Int) (m : Int) (w : World) (hT : TabK w) (hR : Rd w 1 A n (bs l)) (hB : isB l) (hn : n ≤ 4294967295) :
    Calls Tryd.prog 14 #[.slice A n c, .int .i64 m] w fun e w' => e = .returned (.int .u32 (Sha.bits l m)) ∧ Below w.heap.size w w' := by
  have HC := rsum_spec A n c l w hT hR hB hn
  have HD : Hid (Sha.bits l m = if m < 1 ∨ 32 < m then 0 else Sha.wordAt (Sha.sum l) 0 / 2 ^ (32 - m).toNat) := Lib.hid rfl
  generalize Sha.bits l m = v at HD ⊢
  clear hT hR hB
  by_cases h1 : m < 1
  · go_enter Tryd.func14, Tryd.ntmps14
    go_wp2_with fail
    go_ret
    exact ⟨ret_int (by rw [HD.out, if_pos (Or.inl h1)]), Below.refl _ _⟩
  by_cases h2 : 32 < m
  · go_enter Tryd.func14, Tryd.ntmps14
    go_wp2_with fail
    go_ret
    exact ⟨ret_int (by rw [HD.out, if_pos (Or.inr h2)]), Below.refl _ _⟩
  obtain ⟨N, rfl⟩ : ∃ N : Nat, m = (N : Int) := ⟨m.toNat, by omega⟩
  have hN1 : 1 ≤ N := by omega
  have hN2 : N ≤ 32 := by omega
  have HV : Hid (v = Sha.bitsUp (Sha.sum l) N) := Lib.hid (by rw [HD.out, if_neg (by omega), Sha.bitsUp_eq (Sha.sum_isB l) N hN2]; rw [show (32 - (N : Int)).toNat = 32 - N by omega])
  have hz1 : ¬ (N : Int) < 1 := h1
  have hz2 : ¬ (32 : Int) < (N : Int) := h2
  clear HD h1 h2
  go_enter Tryd.func14, Tryd.ntmps14
  go_wp2_with fail
  refine HC.mono ?_
  rintro e w1 ⟨A', c', rfl, hown, hb⟩
  obtain ⟨g, rfl, hg0, hg1, hg2, hg3⟩ := own_block hown (by omega)
  have hRD := Rd.of_own hown
  have HCC : Hid (∀ k, k < 32 → w1.cell? ⟨g, k, none⟩ = some (.int .u8 ((Sha.sum l).getD k 0))) := Lib.hid fun k hk => by
    obtain ⟨b', off', e', hb', hc⟩ := hRD.byte hk
    injection e' with e'
    injection e' with e1 e2
    subst e1 e2
    rwa [Nat.zero_add] at hc
  have HSB := Lib.hid (Sha.sum_isB l)
  have HBD : Hid (∀ n, n < 32 → 0 ≤ Sha.bitsUp (Sha.sum l) n ∧ Sha.bitsUp (Sha.sum l) n ≤ 2147483647) := Lib.hid fun n hn => Sha.bitsUp_bd l hn
  generalize Sha.sum l = s at HV HCC HSB HBD
  clear HC hown hRD hg0 hg2 hg3
  go_wp2_with fail
  go_loopg [6, 7] N (fun g s6 s7 wx => ∃ (i : Nat) (x : Int), i + g = N ∧ x = Sha.bitsUp s i ∧ s7 = .int .i64 i ∧ s6 = .int .u32 x ∧ wx = w1)
  case atStart => exact ⟨0, 0, by omega, rfl, rfl, rfl, rfl⟩
  case round =>
    obtain ⟨i, x, hig, hx, rfl, rfl, rfl⟩ := hrel
    cases gk with
    | zero =>
      obtain rfl : i = N := by omega
      have HX := Lib.hid hx
      clear hx
      go_wp2_with fail
      go_ret
      exact ⟨ret_int (by rw [HX.out, HV.out]), hb⟩
    | succ g =>
      have hi : i < N := by omega
      have hiz : (i : Int) < (N : Int) := by omega
      have hxb := HBD.out i (by omega)
      rw [← hx] at hxb
      obtain ⟨hx0, hx1⟩ := hxb
      have hcell := HCC.out (i / 8) (by omega)
      have hyb := HSB.out.getD (i / 8)
      have h8 : (i : Int) / 8 < 32 := by omega
      have HU : Hid (∀ y : Int, y = s.getD (i / 8) 0 / 2 ^ (7 - i % 8) → x * 2 + y % 2 = Sha.bitsUp s (i + 1)) := Lib.hid fun y hy => by
        rw [hy, hx]; rfl
      clear hx
      generalize s.getD (i / 8) 0 = z at hcell hyb HU
      obtain ⟨hz0, hz1'⟩ := hyb
      go_wp2_with fail
      go_loopg [8, 9] (7 - i % 8) (fun g s8 s9 wx => ∃ (k j : Nat) (y : Int), i % 8 + k + g = 7 ∧ j = i % 8 + k ∧ y = z / 2 ^ k ∧ s9 = .int .i64 j ∧ s8 = .int .u8 y ∧ wx = wr)
      case atStart => exact ⟨0, i % 8, z, by omega, rfl, by simp, by go_num, rfl, rfl⟩
      case round =>
        obtain ⟨k, j, y, hkg, hj, hy, rfl, rfl, rfl⟩ := hrel
        have hp : (0 : Int) < 2 ^ k := Int.pow_pos (by decide)
        have hy0 : 0 ≤ y := by rw [hy]; exact Int.ediv_nonneg hz0 (Int.le_of_lt hp)
        have hy1 : y ≤ 255 := by rw [hy]; exact Int.le_trans (Int.ediv_le_self _ hz0) hz1'
        clear hp
        cases gk with
        | zero =>
          obtain rfl : j = 7 := by omega
          have HY : Hid (x * 2 + y % 2 = Sha.bitsUp s (i + 1)) := Lib.hid (HU.out y (by rw [hy, show k = 7 - i % 8 by omega]))
          clear hy hj hkg
          go_wp2_with fail
          go_roundg g
          case measure => omega
          case rel => exact ⟨i + 1, x * 2 + y % 2, by omega, HY.out, by go_num, val_int (by omega), rfl⟩
        | succ g =>
          have hjz : (j : Int) < 7 := by omega
          have HY : Hid (y / 2 = z / 2 ^ (k + 1)) := Lib.hid (by rw [hy, Int.ediv_ediv_of_nonneg (Int.le_of_lt (Int.pow_pos (by decide))), Int.pow_succ])
          have HJ := Lib.hid hj
          clear hy hj
          go_wp2_with fail
          go_roundg g
          case measure => omega
          case rel => exact ⟨k + 1, j + 1, y / 2, by omega, by have := HJ.out; omega, HY.out, by go_num, val_int (by omega), rfl⟩
end Go.Proofs.YtjikegapljdddaaDoor
