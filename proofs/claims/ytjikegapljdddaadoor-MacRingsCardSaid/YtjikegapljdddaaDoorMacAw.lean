/- The walk of the mac laws' awake. -/
import Derived.Test.YtjikegapljdddaaDoorMacRef2
import Derived.Lib.SlBytesConst
namespace Go.Proofs.YtjikegapljdddaaDoor
open Go.RowKit
set_option linter.unusedVariables false
set_option maxRecDepth 100000 in
theorem Mac.fix : (Mac.sum [107, 101, 121] [84, 104, 101, 32, 113, 117, 105, 99, 107, 32, 98, 114, 111, 119, 110, 32, 102, 111, 120, 32, 106, 117, 109, 112, 115, 32, 111, 118, 101, 114, 32, 116, 104, 101, 32, 108, 97, 122, 121, 32, 100, 111, 103]).getD 0 0 = 247 ∧ (Mac.sum [107, 101, 121] [84, 104, 101, 32, 113, 117, 105, 99, 107, 32, 98, 114, 111, 119, 110, 32, 102, 111, 120, 32, 106, 117, 109, 112, 115, 32, 111, 118, 101, 114, 32, 116, 104, 101, 32, 108, 97, 122, 121, 32, 100, 111, 103]).getD 1 0 = 188 ∧ (Mac.sum [107, 101, 121] [84, 104, 101, 32, 113, 117, 105, 99, 107, 32, 98, 114, 111, 119, 110, 32, 102, 111, 120, 32, 106, 117, 109, 112, 115, 32, 111, 118, 101, 114, 32, 116, 104, 101, 32, 108, 97, 122, 121, 32, 100, 111, 103]).getD 31 0 = 216 := by decide +kernel
theorem mac_key : isB [107, 101, 121] := by
  intro x hx
  simp only [List.mem_cons, List.not_mem_nil, or_false] at hx
  omega
theorem mac_text : isB [84, 104, 101, 32, 113, 117, 105, 99, 107, 32, 98, 114, 111, 119, 110, 32, 102, 111, 120, 32, 106, 117, 109, 112, 115, 32, 111, 118, 101, 114, 32, 116, 104, 101, 32, 108, 97, 122, 121, 32, 100, 111, 103] := by
  intro x hx
  simp only [List.mem_cons, List.not_mem_nil, or_false] at hx
  omega
theorem rd_mark (w : World) (T : TypeId) (l : List Int) (n : Nat) (fr : Nat × Nat) (hn : n = l.length) : Rd (w.alloc (.cells (bs l).toArray T fr)) 1 (some ⟨w.heap.size, 0, none⟩) n (bs l) := by
  subst hn
  refine ⟨by rw [bs_len, Nat.mul_one], fun _ => ⟨_, 0, rfl, by simp, fun j u hu => ?_⟩⟩
  rw [cell_of_row _ _ _ _ T fr (heap_alloc_new w _)]
  simpa using hu
set_option maxRecDepth 4000 in
set_option maxHeartbeats 4000000 in
theorem mac_awake (w : World) (hT : Tabs w) : Calls Tryd.prog 15 #[] w fun e w' => e = .returned (.bool true) ∧ Below w.heap.size w w' := by
  obtain ⟨w1, hw1⟩ : ∃ w1, w1 = w.alloc (.cells #[.int .u8 107, .int .u8 101, .int .u8 121] 5 (3, 4)) := ⟨_, rfl⟩
  obtain ⟨w2, hw2⟩ : ∃ w2, w2 = w1.alloc (.cells #[.int .u8 84, .int .u8 104, .int .u8 101, .int .u8 32, .int .u8 113, .int .u8 117, .int .u8 105, .int .u8 99, .int .u8 107, .int .u8 32, .int .u8 98, .int .u8 114, .int .u8 111, .int .u8 119, .int .u8 110, .int .u8 32, .int .u8 102, .int .u8 111, .int .u8 120, .int .u8 32, .int .u8 106, .int .u8 117, .int .u8 109, .int .u8 112, .int .u8 115, .int .u8 32, .int .u8 111, .int .u8 118, .int .u8 101, .int .u8 114, .int .u8 32, .int .u8 116, .int .u8 104, .int .u8 101, .int .u8 32, .int .u8 108, .int .u8 97, .int .u8 122, .int .u8 121, .int .u8 32, .int .u8 100, .int .u8 111, .int .u8 103] 5 (43, 44)) := ⟨_, rfl⟩
  have hs1 : w1.heap.size = w.heap.size + 1 := by rw [hw1]; simp
  have hb1 : Below w.heap.size w w1 := by rw [hw1]; exact (Below.refl _ _).alloc (Nat.le_refl _) _
  have hb2 : Below w1.heap.size w1 w2 := by rw [hw2]; exact (Below.refl _ _).alloc (Nat.le_refl _) _
  have hbw := bel_then hb1 hb2
  have R1 : Rd w1 1 (some ⟨w.heap.size, 0, none⟩) 3 (bs [107, 101, 121]) := by rw [hw1]; exact rd_mark w 5 [107, 101, 121] 3 (3, 4) rfl
  have R2 : Rd w2 1 (some ⟨w1.heap.size, 0, none⟩) 43 (bs [84, 104, 101, 32, 113, 117, 105, 99, 107, 32, 98, 114, 111, 119, 110, 32, 102, 111, 120, 32, 106, 117, 109, 112, 115, 32, 111, 118, 101, 114, 32, 116, 104, 101, 32, 108, 97, 122, 121, 32, 100, 111, 103]) := by rw [hw2]; exact rd_mark w1 5 [84, 104, 101, 32, 113, 117, 105, 99, 107, 32, 98, 114, 111, 119, 110, 32, 102, 111, 120, 32, 106, 117, 109, 112, 115, 32, 111, 118, 101, 114, 32, 116, 104, 101, 32, 108, 97, 122, 121, 32, 100, 111, 103] 43 (43, 44) rfl
  have kc1 := fun (w : World) => Lib.run_convert_bytes_const (P := Tryd.prog) w 24 5 #[.int .u8 107, .int .u8 101, .int .u8 121] 3 3 Tryd.underlying24 Tryd.underlying5
  have kc2 := Lib.run_convert_bytes_const (P := Tryd.prog) (w.alloc (.cells #[.int .u8 107, .int .u8 101, .int .u8 121] 5 (3, 4))) 24 5 #[.int .u8 84, .int .u8 104, .int .u8 101, .int .u8 32, .int .u8 113, .int .u8 117, .int .u8 105, .int .u8 99, .int .u8 107, .int .u8 32, .int .u8 98, .int .u8 114, .int .u8 111, .int .u8 119, .int .u8 110, .int .u8 32, .int .u8 102, .int .u8 111, .int .u8 120, .int .u8 32, .int .u8 106, .int .u8 117, .int .u8 109, .int .u8 112, .int .u8 115, .int .u8 32, .int .u8 111, .int .u8 118, .int .u8 101, .int .u8 114, .int .u8 32, .int .u8 116, .int .u8 104, .int .u8 101, .int .u8 32, .int .u8 108, .int .u8 97, .int .u8 122, .int .u8 121, .int .u8 32, .int .u8 100, .int .u8 111, .int .u8 103] 43 43 Tryd.underlying24 Tryd.underlying5
  have hs1' : (w.alloc (.cells #[.int .u8 107, .int .u8 101, .int .u8 121] 5 (3, 4))).heap.size = w.heap.size + 1 := by simp
  rw [hs1'] at kc2
  clear hs1'
  have HC := Lib.hid (msum_spec (some ⟨w.heap.size, 0, none⟩) 3 3 (some ⟨w1.heap.size, 0, none⟩) 43 43 [107, 101, 121] [84, 104, 101, 32, 113, 117, 105, 99, 107, 32, 98, 114, 111, 119, 110, 32, 102, 111, 120, 32, 106, 117, 109, 112, 115, 32, 111, 118, 101, 114, 32, 116, 104, 101, 32, 108, 97, 122, 121, 32, 100, 111, 103] w2 (hT.below hbw) (R1.below hb2) R2 mac_key mac_text (by omega) (by omega))
  clear R1 R2 hb2 hb1 hT
  go_enter Tryd.func15, Tryd.ntmps15
  rw [hs1] at HC
  have hs2 : w2.heap.size = w.heap.size + 2 := by rw [hw2]; simp [hs1]
  clear hs1
  go_wp2_with fail
  rw [← hw1, ← hw2]
  clear hw1 hw2 kc1 kc2
  refine HC.out.mono ?_
  rintro e w3 ⟨A3, c3, rfl, hown, hb3⟩
  have hbF := bel_then hbw hb3
  have R3 := Rd.of_own hown
  clear hown HC hb3 hbw
  obtain ⟨e0, e1, e31⟩ := Mac.fix
  obtain ⟨g, off, rfl, hg, x0⟩ := R3.byte (k := 0) (by omega)
  obtain ⟨g', off', e', hg', x1⟩ := R3.byte (k := 1) (by omega)
  injection e' with e'; injection e' with q1 q2; subst q1; subst q2
  obtain ⟨g', off', e', hg', x31⟩ := R3.byte (k := 31) (by omega)
  injection e' with e'; injection e' with q1 q2; subst q1; subst q2
  rw [e0, Nat.add_zero] at x0
  rw [e1] at x1
  rw [e31] at x31
  clear R3 e0 e1 e31
  go_wp2
  go_ret
  exact ⟨rfl, hbF⟩
end Go.Proofs.YtjikegapljdddaaDoor
