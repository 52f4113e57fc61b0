/- The walks of the alarms' methods Len, Less. -/
import Derived.Test.YtdboehogkmidbaaWhMem
import Derived.BigRegion
import Derived.RegionTactic
import Derived.ChangeAlike
import Derived.Deep.DeepCutAuto
namespace Go.Proofs.Ytdboehogkmidbaa
open Go.RowKit
set_option linter.unusedVariables false
theorem alen_spec (g : Nat) (A : Option Addr) (n c : Nat) (w : World) (h : w.cell? ⟨g, 0, none⟩ = some (.slice A n c)) :
    Calls Try.prog 35 #[.pointer (some ⟨g, 0, none⟩)] w fun e w' => e = .returned (.int .i64 n) ∧ w = w' := by
  go_enter Try.func35, Try.ntmps35
  go_wp2
  go_ret
  exact ⟨rfl, rfl⟩
theorem less_val {x y : Wh.Al} {b : Bool} (h : b = true ↔ Wh.lt x y) : b = decide (Wh.lt x y) := by rw [Bool.eq_iff_iff, h]; simp
set_option maxRecDepth 8000 in
set_option maxHeartbeats 4000000 in
theorem aless_spec (g gr : Nat) (n c : Nat) (i j : Nat) (x y : Wh.Al) (w : World) (h : w.cell? ⟨g, 0, none⟩ = some (.slice (some ⟨gr, 0, none⟩) n c)) (hi : i < n) (hj : j < n) (hn : n ≤ 1000) (hg : g < w.heap.size) (hgr : gr < w.heap.size)
    (x0 : w.cell? ⟨gr, i * 2, none⟩ = some (.int .i64 x.k)) (x1 : w.cell? ⟨gr, i * 2 + 1, none⟩ = some (.int .i64 x.t)) (y0 : w.cell? ⟨gr, j * 2, none⟩ = some (.int .i64 y.k)) (y1 : w.cell? ⟨gr, j * 2 + 1, none⟩ = some (.int .i64 y.t)) :
    Calls Try.prog 61 #[.pointer (some ⟨g, 0, none⟩), .int .i64 i, .int .i64 j] w fun e w' => e = .returned (.bool (decide (Wh.lt x y))) ∧ Below w.heap.size w w' := by
  have hiz : (i : Int) < (n : Int) := by omega
  have hjz : (j : Int) < (n : Int) := by omega
  go_enter Try.func61, Try.ntmps61
  go_upto_region 1 with (fail)
  go_region
  all_goals
    go_wp2_with fail
  all_goals
    go_ret
    exact ⟨ret_bool (less_val (by unfold Wh.lt; constructor <;> intro hh <;> first | (cases hh; done) | omega | (simp only [decide_eq_true_eq] at hh; done) | (simp only [decide_eq_true_eq] at hh; omega) | (simp only [decide_eq_true_eq]; done) | (simp only [decide_eq_true_eq]; omega) | (simp_all; done) | (simp_all; omega))), by repeat (first | with_reducible exact Below.refl _ _ | with_reducible refine bel_al2 ?_ _ | with_reducible refine bel_dr2 ?_ | with_reducible refine bel_drN2 ?_ _ | exact Below.refl _ _ | refine bel_al2 ?_ _ | refine bel_dr2 ?_ | refine Below.setCell ?_ ?_ _)⟩
end Go.Proofs.Ytdboehogkmidbaa
