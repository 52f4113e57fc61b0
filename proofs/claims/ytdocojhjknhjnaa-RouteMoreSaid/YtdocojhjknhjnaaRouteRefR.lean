/- The walk of the reference's Right of routes. -/
import Derived.Test.YtdocojhjknhjnaaRouteAwake
import Derived.BigQuiet
namespace Go.Proofs.Ytdocojhjknhjnaa
open Go.RowKit
set_option linter.unusedVariables false
theorem Route.step_false {l : List Route.R} {k j : Nat} (hj : j < k) (hk : k < l.length) (h : Route.sameB l[k]! l[j]! = true) : Route.stepB l k = false := by
  unfold Route.stepB
  rw [Bool.and_eq_false_iff]
  right
  rw [Bool.not_eq_false', List.any_eq_true]
  refine ⟨l[j]!, ?_, h⟩
  rw [getElem!_pos l j (by omega)]
  exact List.mem_take_iff_getElem.2 ⟨j, by omega, rfl⟩
theorem Route.step_true {l : List Route.R} {k : Nat} (hk : k < l.length) (hm : Route.mayB l[k]! = true) (h : ∀ j, j < k → Route.sameB l[k]! l[j]! = false) : Route.stepB l k = true := by
  unfold Route.stepB
  rw [hm, Bool.true_and, Bool.not_eq_true', List.any_eq_false]
  intro x hx
  obtain ⟨j, hj, rfl⟩ := List.mem_take_iff_getElem.1 hx
  have := h j (by omega)
  rw [getElem!_pos l j (by omega)] at this
  rw [this]; simp
theorem Route.step_may {l : List Route.R} {k : Nat} (h : Route.mayB l[k]! = false) : Route.stepB l k = false := by
  unfold Route.stepB
  rw [h]; rfl
theorem RCells.route {w : World} {g : Nat} {r : Route.R} (H : RCells w g r.cells) : w.cell? ⟨g, 0, none⟩ = some (.int .u32 r.net) ∧ w.cell? ⟨g, 1, none⟩ = some (.int .i64 r.bits) ∧ w.cell? ⟨g, 2, none⟩ = some (.int .i64 r.zone) ∧ w.cell? ⟨g, 3, none⟩ = some (.int .i64 r.mtu) :=
  ⟨H.2 0 _ rfl, H.2 1 _ rfl, H.2 2 _ rfl, H.2 3 _ rfl⟩
open Route in
set_option maxRecDepth 4000 in
set_option maxHeartbeats 4000000 in
theorem rtright_spec (A : Option Addr) (n c : Nat) (l : List Route.R) (w : World) (hrd : RdRoutes w A n l) (hwf : ∀ r ∈ l, r.wf) (hn2 : n ≤ 4294967296) :
    Calls Try.prog 23 #[.slice A n c] w fun e w' => e = .returned (.bool (Route.rightB l)) ∧ Below w.heap.size w w' := by
  have hl := hrd.1
  have HWF := Lib.hid hwf
  clear hwf
  go_enter Try.func23, Try.ntmps23
  go_wp2
  go_loopw [3] (fun i wr => ∃ k : Nat, k ≤ n ∧ k ≤ 64 ∧ i = .int .i64 k ∧ Below w.heap.size w wr ∧ Hid (∀ j, j < k → Route.stepB l j = true)) (fun i _ => n - (intOf i).toNat)
  case atStart => exact ⟨0, by omega, by omega, rfl, Below.refl _ _, Lib.hid fun j hj => absurd hj (Nat.not_lt_zero _)⟩
  case round =>
    obtain ⟨k, hk, hk64, rfl, hbel, HM⟩ := hrel
    by_cases hlt : k < n
    · have hltz : (k : Int) < (n : Int) := by omega
      have hrw := hrd.below hbel
      obtain ⟨b, off, rfl, l2⟩ := hrw.2.2 k hlt
      have hrwf : (l[k]!).wf := HWF.out _ (by rw [getElem!_pos l k (by omega)]; exact List.getElem_mem _)
      have HNO := Lib.hid (fun h => Route.right_no (l := l) (k := k) (by omega) h)
      have HSM := Lib.hid (fun (h : Route.mayB l[k]! = false) => Route.right_no (l := l) (k := k) (by omega) (Route.step_may h))
      have HSF := Lib.hid (fun j (hj : j < k) h => Route.right_no (l := l) (k := k) (by omega) (Route.step_false hj (by omega) h))
      have HST := Lib.hid (fun hm h => Route.step_true (l := l) (k := k) (by omega) hm h)
      generalize l[k]! = r at l2 hrwf HSM HSF HST
      obtain ⟨e0, e1, e2, e3⟩ := l2.four
      have hlb := l2.1
      obtain ⟨W, hW⟩ : ∃ W, W = wr.alloc (.cells #[.int .u32 r.net, .int .i64 r.bits, .int .i64 r.zone, .int .i64 r.mtu] 40) := ⟨_, rfl⟩
      have hbW : Below wr.heap.size wr W := by rw [hW]; exact (Below.refl _ _).alloc (Nat.le_refl _) _
      have Br : RCells W wr.heap.size r.cells := by rw [hW]; exact RCells.new wr r.cells 40
      have hbelW := hbel.trans (hbW.mono hbel.size)
      have hbelA := hbel.trans ((Below.refl wr.heap.size wr).alloc (Nat.le_refl _) (.cells #[.int .u32 r.net, .int .i64 r.bits, .int .i64 r.zone, .int .i64 r.mtu] 40) |>.mono hbel.size)
      clear l2
      by_cases c0 : k = 64
      · have HN : Hid (rightB l = false) := by show _ = _; unfold rightB; simp; omega
        have h0 : (64 : Int) ≤ (k : Int) := by omega
        clear hrw hrd Br c0
        go_wp2
        go_ret
        exact ⟨ret_bool HN.out.symm, hbelA⟩
      have h0 : ¬ (64 : Int) ≤ (k : Int) := by omega
      by_cases hP : (0 ≤ r.bits ∧ r.bits ≤ 32) ∧ (0 ≤ r.zone ∧ r.zone ≤ 7) ∧ (68 ≤ r.mtu ∧ r.mtu ≤ 65535)
      · obtain ⟨⟨p1, p2⟩, ⟨p3, p4⟩, p5, p6⟩ := hP
        have n1 : ¬ r.bits < 0 := by omega
        have n2 : ¬ 32 < r.bits := by omega
        have n3 : ¬ r.zone < 0 := by omega
        have n4 : ¬ 7 < r.zone := by omega
        have n5 : ¬ r.mtu < 68 := by omega
        have n6 : ¬ 65535 < r.mtu := by omega
        obtain ⟨B, hB⟩ : ∃ B : Nat, r.bits = B := ⟨_, (Int.toNat_of_nonneg p1).symm⟩
        have hB32 : B ≤ 32 := by omega
        have HB := Lib.hid hB
        clear hB
        go_wp2
        rw [← hW]
        rw [HB.out]
        clear hW e0 e1 e2 e3
        go_loop [5, 6] (fun x y => ∃ (j : Nat) (v : Int), B ≤ j ∧ j ≤ 32 ∧ y = .int .i64 j ∧ x = .int .u64 v ∧ 1 ≤ v ∧ v ≤ 4294967296 ∧ (j < 32 → v ≤ 2147483648) ∧ Hid (v = 2 ^ (j - B))) (fun _ y => 32 - (intOf y).toNat)
        case atStart => exact ⟨B, 1, by omega, by omega, rfl, rfl, by omega, by omega, by omega, Lib.hid (by simp)⟩
        case round =>
          obtain ⟨j, v, hBj, hj, rfl, rfl, v0, v1, v2, HV⟩ := hrel
          by_cases hj32 : j < 32
          · have hjz : (j : Int) < 32 := by omega
            have v3 := v2 hj32
            have hv4 : v * 2 = 2 ^ (j + 1 - B) := by
              rw [HV.out, show j + 1 - B = j - B + 1 by omega, Int.pow_succ]
            have hv5 : j + 1 < 32 → v * 2 ≤ 2147483648 := by
              intro h
              rw [hv4]
              have : (2 : Int) ^ (j + 1 - B) ≤ 2 ^ 31 := by exact_mod_cast Nat.pow_le_pow_right (by decide) (by omega)
              omega
            have HV4 := Lib.hid hv4
            have HV5 := Lib.hid hv5
            clear hv4 hv5 v2
            go_wp2
            go_round
            case rel => exact ⟨j + 1, v * 2, by omega, by omega, by go_num, by first | rfl | go_num, by omega, by omega, HV5.out, HV4⟩
            case measure => simp [intOf]; omega
          · obtain rfl : j = 32 := by omega
            have hmod : r.net % v = r.net % 2 ^ (32 - r.bits.toNat) := by
              rw [HV.out, HB.out]; simp
            have HMOD := Lib.hid hmod
            clear hmod v2
            have c0' : W.cell? ⟨wr.heap.size, 0, none⟩ = some (.int .u32 r.net) := Br.2 0 _ rfl
            obtain ⟨nn0, nn1⟩ := hrwf
            by_cases hz : r.net % v = 0
            · have hz2 : (r.net % v != 0) = false := by rw [hz]; rfl
              have HMAY : Hid (mayB r = true) := Lib.hid (may_iff.2 ⟨⟨p1, p2⟩, by rw [← HMOD.out]; exact hz, ⟨p3, p4⟩, p5, p6⟩)
              clear hz
              go_wp2
              have rW := hrd.below hbelW
              go_loopw [7] (fun i wv => ∃ q : Nat, q ≤ k ∧ i = .int .i64 q ∧ Below W.heap.size W wv ∧ Hid (∀ j, j < q → sameB r l[j]! = false)) (fun i _ => k - (intOf i).toNat)
              case atStart => exact ⟨0, by omega, rfl, Below.refl _ _, Lib.hid fun j hj => absurd hj (Nat.not_lt_zero _)⟩
              case round =>
                obtain ⟨q, hq, rfl, hbelq, HQ⟩ := hrel
                have hbelV := bel_then hbelW hbelq
                by_cases hqk : q < k
                · have hqz : (q : Int) < (k : Int) := by omega
                  have hqn : (q : Int) < (n : Int) := by omega
                  obtain ⟨b', off', hA, l3⟩ := (rW.below hbelq).2.2 q (by omega)
                  simp only [Option.some.injEq, Addr.mk.injEq, and_true] at hA
                  obtain ⟨rfl, rfl⟩ := hA
                  have hsame : ∀ x : R, sameB r x = ((x.net == r.net) && (x.bits == r.bits)) := fun x => rfl
                  have HSQ := Lib.hid (HSF.out q hqk)
                  generalize hx : l[q]! = x at l3 HSQ
                  have HX := Lib.hid hx
                  clear hx
                  obtain ⟨g0, g1, g2, g3⟩ := l3.four
                  have hlb3 := l3.1
                  have B3 := Br.below hbelq
                  obtain ⟨c0, c1, _, _⟩ := RCells.route B3
                  clear l3 B3
                  cases h1 : (x.net == r.net)
                  · have HNX : Hid (sameB r x = false) := by show _ = _; rw [hsame, h1]; rfl
                    clear hsame
                    go_wp2_with fail
                    go_quiet (fail)
                    go_wp2
                    go_roundw
                    case rel =>
                      refine ⟨q + 1, by omega, by go_num, below_drewN hbelq _, Lib.hid fun j hj => ?_⟩
                      by_cases e : j = q
                      · subst e; rw [HX.out]; exact HNX.out
                      · exact HQ.out j (by omega)
                    case measure => simp [intOf]; omega
                  · cases h2 : (x.bits == r.bits)
                    · have HNX : Hid (sameB r x = false) := by show _ = _; rw [hsame, h1, h2]; rfl
                      clear hsame
                      go_wp2_with fail
                      go_quiet (fail)
                      go_wp2
                      go_roundw
                      case rel =>
                        refine ⟨q + 1, by omega, by go_num, below_drewN hbelq _, Lib.hid fun j hj => ?_⟩
                        by_cases e : j = q
                        · subst e; rw [HX.out]; exact HNX.out
                        · exact HQ.out j (by omega)
                      case measure => simp [intOf]; omega
                    · have HN : Hid (rightB l = false) := Lib.hid (HSQ.out (by rw [hsame, h1, h2]; rfl))
                      clear hsame
                      go_wp2_with fail
                      go_quiet (fail)
                      go_wp2
                      go_ret
                      exact ⟨ret_bool HN.out.symm, below_drewN hbelV _⟩
                · have hqz : ¬ (q : Int) < (k : Int) := by omega
                  have : q = k := by omega
                  subst this
                  have HS := Lib.hid (HST.out HMAY.out HQ.out)
                  go_wp2
                  go_roundw
                  case rel =>
                    refine ⟨q + 1, by omega, by omega, by go_num, hbelV, Lib.hid fun j hj => ?_⟩
                    by_cases e : j = q
                    · subst e; exact HS.out
                    · exact HM.out j (by omega)
                  case measure => simp [intOf]; omega
            · have hz2 : (r.net % v != 0) = true := by simpa using hz
              have HN : Hid (rightB l = false) := Lib.hid (HSM.out (by
                cases hm : mayB r
                · rfl
                · exact absurd (HMOD.out.trans (may_iff.1 hm).2.1) hz))
              clear hz
              go_wp2
              go_ret
              exact ⟨ret_bool HN.out.symm, hbelW⟩
      · have HN : Hid (rightB l = false) := Lib.hid (HSM.out (by
          cases hm : mayB r
          · rfl
          · have := may_iff.1 hm
            exact absurd ⟨this.1, this.2.2⟩ hP))
        clear hrw hrd Br HSM HSF HST
        by_cases q1 : r.bits < 0
        · go_wp2
          go_ret
          exact ⟨ret_bool HN.out.symm, hbelA⟩
        by_cases q2 : 32 < r.bits
        · go_wp2
          go_ret
          exact ⟨ret_bool HN.out.symm, hbelA⟩
        by_cases q3 : r.zone < 0
        · go_wp2
          go_ret
          exact ⟨ret_bool HN.out.symm, hbelA⟩
        by_cases q4 : 7 < r.zone
        · go_wp2
          go_ret
          exact ⟨ret_bool HN.out.symm, hbelA⟩
        by_cases q5 : r.mtu < 68
        · go_wp2
          go_ret
          exact ⟨ret_bool HN.out.symm, hbelA⟩
        · have q6 : 65535 < r.mtu := by omega
          go_wp2
          go_ret
          exact ⟨ret_bool HN.out.symm, hbelA⟩
    · have hltz : ¬ (k : Int) < (n : Int) := by omega
      have : k = n := by omega
      subst this
      go_wp2
      go_ret
      refine ⟨ret_bool ?_, hbel⟩
      rw [Route.right_yes (by omega) (by rw [hl]; exact HM.out)]
end Go.Proofs.Ytdocojhjknhjnaa
