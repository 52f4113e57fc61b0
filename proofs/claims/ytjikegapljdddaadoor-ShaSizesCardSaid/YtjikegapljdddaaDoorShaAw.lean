/- The walk of the sha laws' awake. -/
import Derived.Test.YtjikegapljdddaaDoorShaBitsF
import Derived.Test.YtjikegapljdddaaDoorShaAwake
import Derived.Lib.SlBytesConst
namespace Go.Proofs.YtjikegapljdddaaDoor
open Go.RowKit
set_option linter.unusedVariables false
theorem sha_abc : isB [97, 98, 99] := by
  intro x hx
  simp only [List.mem_cons, List.not_mem_nil, or_false] at hx
  omega
theorem rd_new_mark (w : World) (T : TypeId) (l : List Int) (n : Nat) (fr : Nat × Nat) (hn : n = l.length) : Rd (w.alloc (.cells (bs l).toArray T fr)) 1 (some ⟨w.heap.size, 0, none⟩) n (bs l) := by
  subst hn
  refine ⟨by rw [bs_len, Nat.mul_one], fun _ => ⟨_, 0, rfl, by simp, fun j u hu => ?_⟩⟩
  rw [cell_of_row _ _ _ _ T fr (heap_alloc_new w _)]
  simpa using hu
set_option maxRecDepth 4000 in
set_option maxHeartbeats 4000000 in
theorem sha_awake (w : World) (hT : Tabs w) : Calls Tryd.prog 9 #[] w fun e w' => e = .returned (.bool true) ∧ Below w.heap.size w w' := by
  have HC := sum_spec none 0 0 [] w hT (Rd.nil_ none) (by intro x hx; cases hx) (by omega)
  have HT := Lib.hid hT
  clear hT
  go_enter Tryd.func9, Tryd.ntmps9
  go_wp2_with fail
  refine HC.mono ?_
  rintro e w1 ⟨A1, c1, rfl, hown, hb⟩
  have R1 := Rd.of_own hown
  clear HC hown
  have kc := Lib.run_convert_bytes_const (P := Tryd.prog) w1 24 5 #[.int .u8 97, .int .u8 98, .int .u8 99] 3 3 Tryd.underlying24 Tryd.underlying5
  have HC2 := sum_spec (some ⟨w1.heap.size, 0, none⟩) 3 3 [97, 98, 99] (w1.alloc (.cells #[.int .u8 97, .int .u8 98, .int .u8 99] 5 (3, 4))) ((HT.out.below hb).below ((Below.refl _ _).alloc (Nat.le_refl _) _)) (rd_new_mark w1 5 [97, 98, 99] 3 (3, 4) rfl) sha_abc (by omega)
  have HR1 := Lib.hid R1
  clear R1
  go_wp2_with fail
  refine HC2.mono ?_
  rintro e w2 ⟨A2, c2, rfl, hown, hb2⟩
  have hbF : Below w.heap.size w w2 := (hb.alloc hb.size _).trans (hb2.mono (by have := hb.size; simp; omega))
  have R2 := Rd.of_own hown
  have R1 := (HR1.out.alloc (.cells #[.int .u8 97, .int .u8 98, .int .u8 99] 5 (3, 4))).below hb2
  clear hown HR1 HC2
  obtain ⟨e1, e2⟩ := Sha.sum_nil
  obtain ⟨e3, e4⟩ := Sha.sum_abc
  obtain ⟨g, off, rfl, hg, x0⟩ := R1.byte (k := 0) (by omega)
  obtain ⟨g', off', e', hg', x31⟩ := R1.byte (k := 31) (by omega)
  injection e' with e'; injection e' with q1 q2; subst q1; subst q2
  obtain ⟨g2, off2, rfl, hg2, y0⟩ := R2.byte (k := 0) (by omega)
  obtain ⟨g', off', e', hg', y31⟩ := R2.byte (k := 31) (by omega)
  injection e' with e'; injection e' with q1 q2; subst q1; subst q2
  rw [e1, Nat.add_zero] at x0
  rw [e2] at x31
  rw [e3, Nat.add_zero] at y0
  rw [e4] at y31
  clear R1 R2 e1 e2 e3 e4
  go_wp2
  go_ret
  exact ⟨rfl, hbF⟩
end Go.Proofs.YtjikegapljdddaaDoor
