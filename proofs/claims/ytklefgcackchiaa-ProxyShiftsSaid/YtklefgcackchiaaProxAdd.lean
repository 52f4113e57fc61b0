/- The walk of proxy.add: four bytes of a row of the call's own. -/
import Derived.Test.YtklefgcackchiaaChecked
import Derived.Test.YtklefgcackchiaaProxPlain
import Derived.Test.YtklefgcackchiaaU32
import Derived.Test.YtklefgcackchiaaBlkOwn
import Derived.BigQuiet
import Derived.Deep.RegionHeld3
import Derived.Deep.Cut
namespace Go.Proofs.Ytklefgcackchiaa
open Go.RowKit
set_option linter.unusedVariables false
set_option linter.unusedSimpArgs false
theorem grown_trans {w w1 w2 : World} {g : Option Nat} (h : w.grownBy w1 g) (k : w1.grownBy w2 g) : w.grownBy w2 g :=
  ⟨k.os.trans h.os, k.tape.trans h.tape, k.output.trans h.output, Nat.le_trans h.size k.size, fun i hi hne => (k.block i (Nat.lt_of_lt_of_le hi h.size) hne).trans (h.block i hi hne)⟩
theorem grown_drewN {w w1 : World} {g : Option Nat} (h : w.grownBy w1 g) (k : Nat) : w.grownBy (w1.drewN k) g := ⟨h.os, h.tape, h.output, h.size, h.block⟩
theorem Prox.cut4 {l : List Int} {a : Nat} (h : a + 4 ≤ l.length) : ∃ x0 x1 x2 x3, l[a]? = some x0 ∧ l[a + 1]? = some x1 ∧ l[a + 2]? = some x2 ∧ l[a + 3]? = some x3 ∧ ∀ m y0 y1 y2 y3, Prox.w4 ((Prox.word x0 x1 x2 x3 + m) % 4294967296) = [y0, y1, y2, y3] → ((((l.set a y0).set (a + 1) y1).set (a + 2) y2).set (a + 3) y3) = l.take a ++ Prox.sh1 m (l.drop a) := by
  have e : l.drop a = l[a] :: l[a + 1] :: l[a + 2] :: l[a + 3] :: l.drop (a + 4) := by
    rw [List.drop_eq_getElem_cons (by omega), List.drop_eq_getElem_cons (by omega), List.drop_eq_getElem_cons (by omega), List.drop_eq_getElem_cons (by omega)]
  refine ⟨l[a], l[a + 1], l[a + 2], l[a + 3], List.getElem?_eq_getElem _, List.getElem?_eq_getElem _, List.getElem?_eq_getElem _, List.getElem?_eq_getElem _, fun m y0 y1 y2 y3 hy => ?_⟩
  rw [e]
  simp only [Prox.sh1, hy]
  apply List.ext_getElem?
  intro j
  have hl : (l.take a).length = a := by rw [List.length_take]; omega
  by_cases h1 : j < a
  · rw [List.getElem?_append_left (by omega), List.getElem?_take_of_lt h1]
    rw [List.getElem?_set_ne (by omega), List.getElem?_set_ne (by omega), List.getElem?_set_ne (by omega), List.getElem?_set_ne (by omega)]
  · rw [List.getElem?_append_right (by omega), hl]
    rcases (show j = a ∨ j = a + 1 ∨ j = a + 2 ∨ j = a + 3 ∨ a + 4 ≤ j by omega) with rfl | rfl | rfl | rfl | h4
    · rw [List.getElem?_set_ne (by omega), List.getElem?_set_ne (by omega), List.getElem?_set_ne (by omega), List.getElem?_set_self (by omega)]; simp
    · rw [List.getElem?_set_ne (by omega), List.getElem?_set_ne (by omega), List.getElem?_set_self (by simp; omega)]; simp
    · rw [List.getElem?_set_ne (by omega), List.getElem?_set_self (by simp; omega)]; simp
    · rw [List.getElem?_set_self (by simp; omega)]; simp
    · rw [List.getElem?_set_ne (by omega), List.getElem?_set_ne (by omega), List.getElem?_set_ne (by omega), List.getElem?_set_ne (by omega)]
      rw [show j - a = (j - (a + 4)) + 4 by omega]
      simp only [List.cons_append, List.nil_append, List.getElem?_cons_succ, List.getElem?_drop]
      congr 1
      omega
theorem bs_set (l : List Int) (i : Nat) (x : Int) : (bs l).set i (.int .u8 x) = bs (l.set i x) := by simp [bs, List.map_set]
set_option maxHeartbeats 4000000 in
theorem padd_spec (g a N cap : Nat) (l : List Int) (m : Int) (base : Nat) (w : World) (hown : w.ownsRow base 5 1 (.slice (some ⟨g, 0, none⟩) N cap) N (bs l)) (hB : isB l) (ha : a + 4 ≤ N) (hN : N ≤ 4294967295) (hcap : N ≤ cap) (hm0 : 0 ≤ m) (hm1 : m ≤ 4294967295) :
    Calls Try.prog 21 #[.slice (some ⟨g, a, none⟩) (N - a) (cap - a), .int .u32 m] w fun e w' => e = .returned (.tuple #[]) ∧ w'.ownsRow base 5 1 (.slice (some ⟨g, 0, none⟩) N cap) N (bs (l.take a ++ Prox.sh1 m (l.drop a))) ∧ w.grownBy w' (some g) := by
  have hl : l.length = N := by have := hown.1; rw [bs_len] at this; omega
  obtain ⟨x0, x1, x2, x3, e0, e1, e2, e3, hset⟩ := Prox.cut4 (l := l) (a := a) (by omega)
  have b0 := hB x0 (List.mem_of_getElem? e0)
  have b1 := hB x1 (List.mem_of_getElem? e1)
  have b2 := hB x2 (List.mem_of_getElem? e2)
  have b3 := hB x3 (List.mem_of_getElem? e3)
  have k0 : w.cell? ⟨g, a, none⟩ = some (.int .u8 x0) := by rw [hown.cellAt a (by omega), bs, List.getElem?_map, e0]; rfl
  have k1 : w.cell? ⟨g, a + 1, none⟩ = some (.int .u8 x1) := by rw [hown.cellAt (a + 1) (by omega), bs, List.getElem?_map, e1]; rfl
  have k2 : w.cell? ⟨g, a + 2, none⟩ = some (.int .u8 x2) := by rw [hown.cellAt (a + 2) (by omega), bs, List.getElem?_map, e2]; rfl
  have k3 : w.cell? ⟨g, a + 3, none⟩ = some (.int .u8 x3) := by rw [hown.cellAt (a + 3) (by omega), bs, List.getElem?_map, e3]; rfl
  have f0 := hown.frozenAt a
  have f1 := hown.frozenAt (a + 1)
  have f2 := hown.frozenAt (a + 2)
  have f3 := hown.frozenAt (a + 3)
  obtain ⟨n, hn⟩ : ∃ n : Nat, N - a = n := ⟨_, rfl⟩
  obtain ⟨c, hc⟩ : ∃ c : Nat, cap - a = c := ⟨_, rfl⟩
  rw [hn, hc]
  have hn4 : 4 ≤ n := by omega
  have z0 : (0 : Int) < (n : Int) := by omega
  have z1 : (1 : Int) < (n : Int) := by omega
  have z2 : (2 : Int) < (n : Int) := by omega
  have z3 : (3 : Int) < (n : Int) := by omega
  have hor := Px.word_or b0.1 b0.2 b1.1 b1.2 b2.1 b2.2 b3.1 b3.2
  obtain ⟨wd, hwd⟩ : ∃ wd, x0 * 16777216 + x1 * 65536 + x2 * 256 + x3 = wd := ⟨_, rfl⟩
  rw [hwd] at hor
  have hw0 : 0 ≤ wd ∧ wd ≤ 4294967295 := by omega
  obtain ⟨hw0, hw1⟩ := hw0
  have HS : Hid (∀ y0 y1 y2 y3, Prox.w4 ((wd + m) % 4294967296) = [y0, y1, y2, y3] → ((((l.set a y0).set (a + 1) y1).set (a + 2) y2).set (a + 3) y3) = l.take a ++ Prox.sh1 m (l.drop a)) := Lib.hid fun y0 y1 y2 y3 h => hset m y0 y1 y2 y3 (by unfold Prox.word; rw [hwd]; exact h)
  have HO := Lib.hid hown
  obtain ⟨b00, b01⟩ := b0
  obtain ⟨b10, b11⟩ := b1
  obtain ⟨b20, b21⟩ := b2
  obtain ⟨b30, b31⟩ := b3
  obtain ⟨y, hy⟩ : ∃ y, (wd + m) % 4294967296 = y := ⟨_, rfl⟩
  have hy0 : 0 ≤ y ∧ y ≤ 4294967295 := by omega
  obtain ⟨hy0, hy1⟩ := hy0
  rw [hy] at HS
  clear hset hown hB e0 e1 e2 e3 hwd hn hc hl
  go_enter Try.func21, Try.ntmps21
  go_wp2_with fail
  go_quiet (fail)
  go_wp2_with fail
  go_end0
  have o0 : (w.drewN nq).ownsRow base 5 1 (.slice (some ⟨g, 0, none⟩) N cap) N (bs l) := HO.out
  obtain ⟨o1, q1⟩ := o0.stored a (.int .u8 (y / 16777216))
  obtain ⟨o2, q2⟩ := o1.stored (a + 1) (.int .u8 (y / 65536 % 256))
  obtain ⟨o3, q3⟩ := o2.stored (a + 2) (.int .u8 (y / 256 % 256))
  obtain ⟨o4, q4⟩ := o3.stored (a + 3) (.int .u8 (y % 256))
  rw [bs_set, bs_set, bs_set, bs_set, HS.out (y / 16777216) (y / 65536 % 256) (y / 256 % 256) (y % 256) (by unfold Prox.w4; rw [show y / 16777216 % 256 = y / 16777216 by omega])] at o4
  exact ⟨rfl, o4, grown_trans (grown_drewN (⟨rfl, rfl, rfl, Nat.le_refl _, fun _ _ _ => rfl⟩ : w.grownBy w (some g)) nq) (grown_trans q1 (grown_trans q2 (grown_trans q3 q4)))⟩
end Go.Proofs.Ytklefgcackchiaa
