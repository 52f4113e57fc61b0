/- The walk of sha.Bits. -/
import Derived.Test.YtjikegapljdddaaDoorShaSum
import Derived.Test.YtjikegapljdddaaDoorSameB
namespace Go.Proofs.YtjikegapljdddaaDoor
open Go.RowKit
set_option linter.unusedVariables false
namespace Sha
theorem all_ok (l : List Int) (n : Nat) : (all first l n).ok := first_ok.all l n
theorem word4_isB {x : Int} (h0 : 0 ≤ x) (h1 : x ≤ 4294967295) : isB (word4 x) := by
  intro y hy
  simp only [word4, List.mem_cons, List.not_mem_nil, or_false] at hy
  rcases hy with rfl | rfl | rfl | rfl <;> omega
theorem bytes_isB {V : V} (h : V.ok) : isB (bytes V) := by
  intro y hy
  unfold bytes at hy
  simp only [List.mem_append] at hy
  rcases hy with ((((((hy | hy) | hy) | hy) | hy) | hy) | hy) | hy
  · exact word4_isB h.a.1 h.a.2 y hy
  · exact word4_isB h.b.1 h.b.2 y hy
  · exact word4_isB h.c.1 h.c.2 y hy
  · exact word4_isB h.d.1 h.d.2 y hy
  · exact word4_isB h.e.1 h.e.2 y hy
  · exact word4_isB h.f.1 h.f.2 y hy
  · exact word4_isB h.g.1 h.g.2 y hy
  · exact word4_isB h.h.1 h.h.2 y hy
theorem sum_isB (l : List Int) : isB (sum l) := bytes_isB (all_ok _ _)
theorem sum_len (l : List Int) : (sum l).length = 32 := rfl
/-- the first bits of a digest -/
def bits (l : List Int) (n : Int) : Int := if n < 1 ∨ 32 < n then 0 else wordAt (sum l) 0 / 2 ^ (32 - n).toNat
end Sha
theorem Below.drewN {B : Nat} {a w : World} (h : Below B a w) (k : Nat) : Below B a (w.drewN k) := ⟨h.os, h.tape, h.output, h.size, h.block⟩
set_option maxRecDepth 4000 in
set_option maxHeartbeats 4000000 in
theorem bits_spec (A : Option Addr) (n c : Nat) (l : List Int) (m : Int) (w : World) (hT : Tabs w) (hR : Rd w 1 A n (bs l)) (hB : isB l) (hn : n ≤ 4294967295) :
    Calls Tryd.prog 13 #[.slice A n c, .int .i64 m] w fun e w' => e = .returned (.int .u32 (Sha.bits l m)) ∧ Below w.heap.size w w' := by
  have HC := sum_spec A n c l w hT hR hB hn
  have HD : Hid (Sha.bits l m = if m < 1 ∨ 32 < m then 0 else Sha.wordAt (Sha.sum l) 0 / 2 ^ (32 - m).toNat) := Lib.hid rfl
  generalize Sha.bits l m = v at HD ⊢
  clear hT hR hB
  go_enter Tryd.func13, Tryd.ntmps13
  by_cases h1 : m < 1
  · go_wp2_with fail
    go_ret
    exact ⟨ret_int (by rw [HD.out, if_pos (Or.inl h1)]), Below.refl _ _⟩
  by_cases h2 : 32 < m
  · go_wp2_with fail
    go_ret
    exact ⟨ret_int (by rw [HD.out, if_pos (Or.inr h2)]), Below.refl _ _⟩
  go_wp2_with fail
  refine HC.mono ?_
  rintro e w1 ⟨A', c', rfl, hown, hb⟩
  have HS := Sha.sum_isB l
  have HW : Hid (Sha.wordAt (Sha.sum l) 0 = (((Sha.sum l).getD 0 0 * 256 + (Sha.sum l).getD 1 0) * 256 + (Sha.sum l).getD 2 0) * 256 + (Sha.sum l).getD 3 0) := Lib.hid rfl
  have hR := Rd.of_own hown
  obtain ⟨g, off, rfl, hg, c0⟩ := hR.byte (k := 0) (by omega)
  obtain ⟨g', off', e', hg', c1⟩ := hR.byte (k := 1) (by omega)
  injection e' with e'; injection e' with e1 e2; subst e1; subst e2
  obtain ⟨g', off', e', hg', c2⟩ := hR.byte (k := 2) (by omega)
  injection e' with e'; injection e' with e1 e2; subst e1; subst e2
  obtain ⟨g', off', e', hg', c3⟩ := hR.byte (k := 3) (by omega)
  injection e' with e'; injection e' with e1 e2; subst e1; subst e2
  obtain ⟨p0, q0⟩ := HS.getD 0
  obtain ⟨p1, q1⟩ := HS.getD 1
  obtain ⟨p2, q2⟩ := HS.getD 2
  obtain ⟨p3, q3⟩ := HS.getD 3
  generalize (Sha.sum l).getD 0 0 = x0 at HW c0 p0 q0
  generalize (Sha.sum l).getD 1 0 = x1 at HW c1 p1 q1
  generalize (Sha.sum l).getD 2 0 = x2 at HW c2 p2 q2
  generalize (Sha.sum l).getD 3 0 = x3 at HW c3 p3 q3
  generalize Sha.wordAt (Sha.sum l) 0 = wd at HW HD
  have hor : _root_.Go.bits .or .u32 (_root_.Go.bits .or .u32 (_root_.Go.bits .or .u32 (x0 * 16777216) (x1 * 65536)) (x2 * 256)) x3 = wd := by
    rw [Sha.word_or p0 q0 p1 q1 p2 q2 p3 q3, HW.out]
  have k0 : IntKind.u32.wrap x0 = x0 := by rw [IntKind.wrap_u32]; omega
  have k1 : IntKind.u32.wrap x1 = x1 := by rw [IntKind.wrap_u32]; omega
  have k2 : IntKind.u32.wrap x2 = x2 := by rw [IntKind.wrap_u32]; omega
  have k3 : IntKind.u32.wrap x3 = x3 := by rw [IntKind.wrap_u32]; omega
  have m0 : IntKind.u32.wrap (x0 * 16777216) = x0 * 16777216 := by rw [IntKind.wrap_u32]; omega
  have m1 : IntKind.u32.wrap (x1 * 65536) = x1 * 65536 := by rw [IntKind.wrap_u32]; omega
  have m2 : IntKind.u32.wrap (x2 * 256) = x2 * 256 := by rw [IntKind.wrap_u32]; omega
  obtain ⟨y, hy⟩ : ∃ y, y = 32 - m := ⟨_, rfl⟩
  have hw : IntKind.i64.wrap (32 - m) = y := by rw [hy]; exact IntWalk.i64_in _ (by omega)
  have y0 : 0 ≤ y := by omega
  have y1 : y ≤ 32 := by omega
  have HY := Lib.hid hy
  have HN : Hid (¬ (m < 1 ∨ 32 < m)) := Lib.hid (by omega)
  rw [Nat.add_zero] at c0
  clear hown hR HS HC hy h1 h2
  go_wp2_with fail
  go_quiet (fail)
  go_wp2_with fail
  go_ret
  exact ⟨ret_int (by rw [HD.out, if_neg HN.out, ← HY.out]), Below.drewN hb _⟩
end Go.Proofs.YtjikegapljdddaaDoor
