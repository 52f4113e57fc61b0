/- casematelaw11's reference: Same of two lists of numbers that are the same. -/
import Derived.Test.YtlibhboibkajgaaWhDropW
import Derived.Deep.QuietTactic
import Derived.BigQuiet
namespace Go.Proofs.Ytlibhboibkajgaa
open Go.RowKit
set_option linter.unusedVariables false
set_option linter.unusedSimpArgs false
theorem Rd.i64 {w : World} {A : Option Addr} {n : Nat} {l : List Int} (h : Rd w 1 A n (l.map (.int .i64))) {k : Nat} (hk : k < n) :
    ∃ b off, A = some ⟨b, off, none⟩ ∧ b < w.heap.size ∧ w.cell? ⟨b, off + k, none⟩ = some (.int .i64 (l.getD k 0)) := by
  have hn := h.1
  simp only [List.length_map, Nat.mul_one] at hn
  obtain ⟨b, off, e, hb, hc⟩ := h.2 (by omega)
  exact ⟨b, off, e, hb, hc k _ (by simp [hn, hk])⟩
set_option maxHeartbeats 4000000 in
theorem isame_spec (A : Option Addr) (n c : Nat) (B : Option Addr) (d : Nat) (l : List Int) (w : World) (hA : Rd w 1 A n (l.map (.int .i64))) (hB : Rd w 1 B n (l.map (.int .i64))) (hn : n ≤ 100000) :
    Calls Try.prog 11 #[.slice A n c, .slice B n d] w fun e w' => e = .returned (.bool true) ∧ Below w.heap.size w w' := by
  have HA := Lib.hid hA
  have HB := Lib.hid hB
  clear hA hB
  go_enter Try.func11, Try.ntmps11
  go_wp2_with fail
  go_loopg [5] (n + 1) (fun gg s5 wx => ∃ i : Nat, i ≤ n ∧ n - i < gg ∧ s5 = .int .i64 i ∧ Aside (Below w.heap.size w wx))
  case atStart => exact ⟨0, by omega, by omega, rfl, Below.refl _ _⟩
  case round =>
    obtain ⟨i, hi, hg, rfl, HX⟩ := hrel
    by_cases hin : i < n
    · have hiz : (i : Int) < (n : Int) := by omega
      obtain ⟨b, off, rfl, hbs, hcx⟩ := (HA.out.below HX.out).i64 hin
      obtain ⟨b2, off2, rfl, hbs2, hcx2⟩ := (HB.out.below HX.out).i64 hin
      go_wp2_with fail
      go_quiet (fail)
      go_wp2_with fail
      go_roundg (gk - 1)
      case measure => omega
      case rel => exact ⟨i + 1, by omega, by omega, by go_num, below_drewN HX.out _⟩
    · obtain rfl : i = n := by omega
      clear hin
      go_wp2_with fail
      go_ret
      exact ⟨rfl, HX.out⟩
end Go.Proofs.Ytlibhboibkajgaa
