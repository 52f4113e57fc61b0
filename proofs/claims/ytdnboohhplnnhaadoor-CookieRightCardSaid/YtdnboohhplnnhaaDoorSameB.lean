/- The walk of the reference's Same. -/
import Derived.Test.YtdnboohhplnnhaaDoorChecked
import Derived.Test.YtdnboohhplnnhaaDoorOwn
import Derived.Deep.QuietTactic
import Derived.BigQuiet
namespace Go.Proofs.YtdnboohhplnnhaaDoor
open Go.RowKit
set_option linter.unusedVariables false
set_option maxHeartbeats 400000 in
theorem ref_same (A B : Option Addr) (n c m d : Nat) (a b : List Int) (w : World) (ha : Rd w 1 A n (bs a)) (hb : Rd w 1 B m (bs b)) (hBa : isB a) (hBb : isB b) (hn : n ≤ 9223372036854775807) :
    Calls Tryd.prog 12 #[.slice A n c, .slice B m d] w fun e w' => e = .returned (.bool (a == b)) ∧ ∃ q, w' = w.drewN q := by
  have hla := ha.blen
  have hlb := hb.blen
  by_cases hnm : n = m
  · subst hnm
    go_enter Tryd.func12, Tryd.ntmps12
    go_wp2
    go_loopw [5] (fun i wr => ∃ k q : Nat, k ≤ n ∧ i = .int .i64 k ∧ Hid (a.take k = b.take k) ∧ wr = w.drewN q) (fun i _ => n - (intOf i).toNat)
    case atStart => exact ⟨0, 0, by omega, rfl, rfl, rfl⟩
    case round =>
      obtain ⟨k, q, hk, rfl, heq, rfl⟩ := hrel
      by_cases hlt : k < n
      · obtain ⟨b1, o1, x, rfl, hl1, hc1, hx, hxm⟩ := Rd.int (kd := .u8) ha (k := k) (by omega)
        obtain ⟨b2, o2, y, rfl, hl2, hc2, hy, hym⟩ := Rd.int (kd := .u8) hb (k := k) (by omega)
        have hlt' : (k : Int) < (n : Int) := by omega
        by_cases hxy : x = y
        · subst hxy
          have ht : a.take (k + 1) = b.take (k + 1) := by
            obtain ⟨ka, rfl⟩ := List.getElem?_eq_some_iff.1 hx.out
            obtain ⟨kb, he⟩ := List.getElem?_eq_some_iff.1 hy.out
            rw [List.take_succ_eq_append_getElem ka, List.take_succ_eq_append_getElem kb, heq.out, he]
          have hne : (x != x) = false := by simp
          have HT := Lib.hid ht
          clear ht ha hb hx hy hxm hym heq hla hlb
          go_wp2
          go_quiet (fail)
          go_wp2
          go_roundw
          case rel => exact ⟨k + 1, q + nq, by omega, by go_num, HT.out, rfl⟩
          case measure => simp [intOf]; omega
        · have hne : (x != y) = true := by rw [bne_iff_ne]; exact hxy
          have hr : (a == b) = false := by
            rw [beq_eq_false_iff_ne]; intro h; subst h
            have h1 := hx.out; have h2 := hy.out
            rw [h1] at h2; injection h2 with h2; exact hxy h2
          have HR := Lib.hid hr
          clear hr ha hb hx hy hxm hym heq hla hlb hxy
          go_wp2
          go_quiet (fail)
          go_wp2
          go_ret
          exact ⟨ret_bool HR.out.symm, q + nq, World.drewN_drewN _ _ _⟩
      · have hr : (a == b) = true := by
          rw [beq_iff_eq]
          have h1 := heq.out
          rw [List.take_of_length_le (by omega), List.take_of_length_le (by omega)] at h1
          exact h1
        have HR := Lib.hid hr
        clear hr ha hb heq hla hlb
        go_wp2
        go_ret
        exact ⟨ret_bool HR.out.symm, q, rfl⟩
  · have hne : ((n : Int) != (m : Int)) = true := by rw [bne_iff_ne]; omega
    have hr : (a == b) = false := by rw [beq_eq_false_iff_ne]; intro h; rw [h] at hla; omega
    have HR := Lib.hid hr
    clear hr hla hlb hnm
    go_enter Tryd.func12, Tryd.ntmps12
    go_wp2
    go_ret
    exact ⟨ret_bool HR.out.symm, 0, rfl⟩
end Go.Proofs.YtdnboohhplnnhaaDoor
