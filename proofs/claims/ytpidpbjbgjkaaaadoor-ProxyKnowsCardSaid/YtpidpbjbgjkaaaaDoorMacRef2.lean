/- The walk of the reference's Bits with a key; the mac laws' awake. -/
import Derived.Test.YtpidpbjbgjkaaaaDoorMacRef
import Derived.Lib.SlBytesConst
namespace Go.Proofs.YtpidpbjbgjkaaaaDoor
open Go.RowKit
set_option linter.unusedVariables false
set_option maxRecDepth 4000 in
set_option maxHeartbeats 4000000 in
theorem rmbits_spec (A : Option Addr) (n c : Nat) (B : Option Addr) (p d : Nat) (key b : List Int) (m : Int) (w : World) (hT : TabK w) (hA : Rd w 1 A n (bs key)) (hBr : Rd w 1 B p (bs b)) (hk : isB key) (hb : isB b) (hn : n ≤ 4294967295) (hp : p ≤ 4294960000) :
    Calls Tryd.prog 59 #[.slice A n c, .slice B p d, .int .i64 m] w fun e w' => e = .returned (.int .u32 (Mac.bits key b m)) ∧ Below w.heap.size w w' := by
  have HC := rmsum_spec A n c B p d key b w hT hA hBr hk hb hn hp
  have HD : Hid (Mac.bits key b m = if m < 1 ∨ 32 < m then 0 else Sha.wordAt (Mac.sum key b) 0 / 2 ^ (32 - m).toNat) := Lib.hid rfl
  have HS := Lib.hid (Mac.sum_isB key b)
  generalize Mac.bits key b m = v at HD ⊢
  generalize Mac.sum key b = sm at HD HC HS
  clear hT hA hBr hk hb
  by_cases h1 : m < 1
  · go_enter Tryd.func59, Tryd.ntmps59
    go_wp2_with fail
    go_ret
    exact ⟨ret_int (by rw [HD.out, if_pos (Or.inl h1)]), Below.refl _ _⟩
  by_cases h2 : 32 < m
  · go_enter Tryd.func59, Tryd.ntmps59
    go_wp2_with fail
    go_ret
    exact ⟨ret_int (by rw [HD.out, if_pos (Or.inr h2)]), Below.refl _ _⟩
  obtain ⟨N, rfl⟩ : ∃ N : Nat, m = (N : Int) := ⟨m.toNat, by omega⟩
  have hN1 : 1 ≤ N := by omega
  have hN2 : N ≤ 32 := by omega
  have HV : Hid (v = Sha.wordAt sm 0 / 2 ^ (32 - N)) := Lib.hid (by rw [HD.out, if_neg (by omega), show (32 - (N : Int)).toNat = 32 - N by omega])
  have HWB : Hid (0 ≤ Sha.wordAt sm 0 ∧ Sha.wordAt sm 0 ≤ 4294967295) := Lib.hid (Sha.wordAt_bd HS.out 0)
  have HW4 : Hid (Sha.wpart sm 0 4 = Sha.wordAt sm 0) := Lib.hid (Sha.wpart4 sm)
  have hz1 : ¬ (N : Int) < 1 := h1
  have hz2 : ¬ (32 : Int) < (N : Int) := h2
  clear HD h1 h2
  generalize Sha.wordAt sm 0 = W at HV HWB HW4
  go_enter Tryd.func59, Tryd.ntmps59
  go_wp2_with fail
  refine HC.mono ?_
  rintro e w1 ⟨A', c', rfl, hown, hb⟩
  obtain ⟨g, rfl, hg0, hg1, hg2, hg3⟩ := own_block hown (by omega)
  have hRD := Rd.of_own hown
  have HCC : Hid (∀ k, k < 32 → w1.cell? ⟨g, k, none⟩ = some (.int .u8 (sm.getD k 0))) := Lib.hid fun k hk => by
    obtain ⟨b', off', e', hb', hc⟩ := hRD.byte hk
    injection e' with e'
    injection e' with e1 e2
    subst e1 e2
    rwa [Nat.zero_add] at hc
  clear HC hown hRD hg0 hg2 hg3
  go_wp2_with fail
  go_loopg [8, 9] 4 (fun g s8 s9 wx => ∃ (i : Nat) (x : Int), i + g = 4 ∧ x = Sha.wpart sm 0 i ∧ s9 = .int .i64 i ∧ s8 = .int .u64 x ∧ wx = w1)
  case atStart => exact ⟨0, 0, by omega, rfl, rfl, rfl, rfl⟩
  case round =>
    obtain ⟨i, x, hig, hx, rfl, rfl, rfl⟩ := hrel
    cases gk with
    | zero =>
      obtain rfl : i = 4 := by omega
      have hxW : x = W := by rw [hx]; exact HW4.out
      clear hx HCC
      subst hxW
      go_wp2_with fail
      go_loopg [8, 10] (32 - N) (fun g s8 s10 wx => ∃ (j k : Nat) (y : Int), k + g = 32 - N ∧ j = N + k ∧ y = x / 2 ^ k ∧ s10 = .int .i64 j ∧ s8 = .int .u64 y ∧ wx = wr)
      case atStart => exact ⟨N, 0, x, by omega, rfl, by simp, rfl, rfl, rfl⟩
      case round =>
        obtain ⟨j, k, y, hkg, hj, hy, rfl, rfl, rfl⟩ := hrel
        obtain ⟨x0, x1⟩ := HWB.out
        have hp2 : (0 : Int) < 2 ^ k := Int.pow_pos (by decide)
        have hy0 : 0 ≤ y := by rw [hy]; exact Int.ediv_nonneg x0 (Int.le_of_lt hp2)
        have hy1 : y ≤ 4294967295 := by rw [hy]; exact Int.le_trans (Int.ediv_le_self _ x0) x1
        clear hp2
        cases gk with
        | zero =>
          have hk : k = 32 - N := by omega
          have HY : Hid (y = v) := Lib.hid (by rw [hy, HV.out, hk])
          have hjz : ¬ (j : Int) < 32 := by omega
          have hwy : IntKind.u32.wrap y = y := by rw [IntKind.wrap_u32]; omega
          clear hy hj hk hkg
          go_wp2_with fail
          go_ret
          exact ⟨ret_int (by have := HY.out; omega), hb⟩
        | succ g =>
          have hjz : (j : Int) < 32 := by omega
          have HY : Hid (y / 2 = x / 2 ^ (k + 1)) := Lib.hid (by rw [hy, Int.ediv_ediv_of_nonneg (Int.le_of_lt (Int.pow_pos (by decide))), Int.pow_succ])
          have HJ := Lib.hid hj
          clear hy hj
          go_wp2_with fail
          go_roundg g
          case measure => omega
          case rel => exact ⟨j + 1, k + 1, y / 2, by omega, by have := HJ.out; omega, HY.out, by go_num, val_int (by omega), rfl⟩
    | succ g =>
      have hi : i < 4 := by omega
      have hiz : (i : Int) < 4 := by omega
      have hi32 : (i : Int) < 32 := by omega
      have hc := HCC.out i (by omega)
      have hyb := HS.out.getD i
      have hxb := Sha.wpart_bd3 HS.out 0 hi
      rw [← hx] at hxb
      have HN : Hid (x * 256 + sm.getD i 0 = Sha.wpart sm 0 (i + 1)) := Lib.hid (by rw [hx, Sha.wpart, Nat.zero_add])
      generalize sm.getD i 0 = y at hc hyb HN
      obtain ⟨hy0, hy1⟩ := hyb
      obtain ⟨hx0, hx1⟩ := hxb
      clear hx
      go_wp2_with fail
      go_roundg g
      case measure => omega
      case rel => exact ⟨i + 1, x * 256 + y, by omega, HN.out, by go_num, val_int (by omega), rfl⟩
end Go.Proofs.YtpidpbjbgjkaaaaDoor
