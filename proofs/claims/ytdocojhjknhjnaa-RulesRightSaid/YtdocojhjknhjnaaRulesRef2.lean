/- The walks of the references of rules: Right, Ask. -/
import Derived.Test.YtdocojhjknhjnaaRulesRefF
namespace Go.Proofs.Ytdocojhjknhjnaa
open Go.RowKit
set_option linter.unusedVariables false
def Rules.ok7 (r : Rules.Rule) (j : Nat) : Bool :=
  if j = 0 then Rules.withinB r.fr (-1) 7 else if j = 1 then Rules.withinB r.to (-1) 7 else if j = 2 then Rules.withinB r.proto 0 255 else if j = 3 then Rules.withinB r.sb 0 32 else
  if j = 4 then Rules.withinB r.db 0 32 else if j = 5 then Rules.withinB r.lo 0 65535 else Rules.withinB r.hi 0 65535
theorem Rules.may_iff (r : Rules.Rule) : Rules.mayB r = true ↔ (∀ j, j < 7 → Rules.ok7 r j = true) ∧ r.lo ≤ r.hi ∧ (r.act = 1 ∨ r.act = 2) := by
  constructor
  · intro h
    unfold Rules.mayB Rules.withinB at h
    simp only [Bool.and_eq_true, decide_eq_true_eq] at h
    refine ⟨fun j hj => ?_, by omega, by omega⟩
    rcases (show j = 0 ∨ j = 1 ∨ j = 2 ∨ j = 3 ∨ j = 4 ∨ j = 5 ∨ j = 6 by omega) with rfl | rfl | rfl | rfl | rfl | rfl | rfl <;> simp [Rules.ok7, Rules.withinB] <;> omega
  · rintro ⟨h, hl, ha⟩
    have h0 := h 0 (by omega)
    have h1 := h 1 (by omega)
    have h2 := h 2 (by omega)
    have h3 := h 3 (by omega)
    have h4 := h 4 (by omega)
    have h5 := h 5 (by omega)
    have h6 := h 6 (by omega)
    simp [Rules.ok7, Rules.withinB] at h0 h1 h2 h3 h4 h5 h6
    unfold Rules.mayB Rules.withinB
    simp only [Bool.and_eq_true, decide_eq_true_eq]
    omega
theorem Rules.may_no {r : Rules.Rule} {j : Nat} (hj : j < 7) (h : Rules.ok7 r j = false) : Rules.mayB r = false := by
  cases hm : Rules.mayB r
  · rfl
  · rw [((Rules.may_iff r).1 hm).1 j hj] at h; cases h
theorem Rules.right_no {l : List Rules.Rule} {k : Nat} (hk : k < l.length) (h : Rules.mayB l[k]! = false) : Rules.rightB l = false := by
  unfold Rules.rightB
  rw [Bool.and_eq_false_iff]
  right
  rw [List.all_eq_false]
  exact ⟨l[k]!, by rw [getElem!_pos l k hk]; exact List.getElem_mem _, by rw [h]; simp⟩
theorem Rules.right_yes {l : List Rules.Rule} (h64 : l.length ≤ 64) (h : ∀ j, j < l.length → Rules.mayB l[j]! = true) : Rules.rightB l = true := by
  unfold Rules.rightB
  rw [Bool.and_eq_true, decide_eq_true_eq, List.all_eq_true]
  refine ⟨h64, fun r hr => ?_⟩
  obtain ⟨j, hj, rfl⟩ := List.mem_iff_getElem.1 hr
  have := h j hj
  rwa [getElem!_pos l j hj] at this
set_option maxHeartbeats 4000000 in
theorem rright_spec (A : Option Addr) (n c : Nat) (l : List Rules.Rule) (w : World) (hrd : RdRow w A n l) :
    Calls Try.prog 16 #[.slice A n c] w fun e w' => e = .returned (.bool (Rules.rightB l)) ∧ Below w.heap.size w w' := by
  have hl := hrd.1
  by_cases h64 : 64 < n
  · have h1 : (64 : Int) < (n : Int) := by omega
    have h2 : Rules.rightB l = false := by unfold Rules.rightB; simp; omega
    rw [h2]
    go_enter Try.func16, Try.ntmps16
    go_wp2
    go_ret
    exact ⟨rfl, Below.refl _ _⟩
  · have h1 : ¬ (64 : Int) < (n : Int) := by omega
    go_enter Try.func16, Try.ntmps16
    go_wp2
    go_loopw [3] (fun i wr => ∃ k : Nat, k ≤ n ∧ i = .int .i64 k ∧ Below w.heap.size w wr ∧ Hid (∀ j, j < k → Rules.mayB l[j]! = true)) (fun i _ => n - (intOf i).toNat)
    case atStart => exact ⟨0, by omega, rfl, Below.refl _ _, Lib.hid fun j hj => absurd hj (Nat.not_lt_zero _)⟩
    case round =>
      obtain ⟨k, hk, rfl, hbel, HM⟩ := hrel
      by_cases hlt : k < n
      · have hltz : (k : Int) < (n : Int) := by omega
        obtain ⟨b, off, rfl, l2⟩ := (hrd.below hbel).2.2 k hlt
        have HNO := Lib.hid (fun h => Rules.right_no (l := l) (k := k) (by omega) h)
        generalize hy : l[k]! = r at l2 HNO
        have HY := Lib.hid hy
        clear hy hrd
        obtain ⟨e0, e1, e2, e3, e4, e5, e6, e7, e8, e9⟩ := l2.ten
        have hlb := l2.1
        clear l2
        obtain ⟨W, hW⟩ : ∃ W, W = wr.alloc (.cells #[.int .i64 r.fr, .int .i64 r.to, .int .i64 r.proto, .int .u32 r.src, .int .u32 r.dst, .int .i64 r.sb, .int .i64 r.db, .int .i64 r.lo, .int .i64 r.hi, .int .i64 r.act] 32) := ⟨_, rfl⟩
        have hbW : Below wr.heap.size wr W := by rw [hW]; exact (Below.refl _ _).alloc (Nat.le_refl _) _
        have Br : RCells W wr.heap.size r.cells := by rw [hW]; exact RCells.new wr r.cells 32
        obtain ⟨a0, a1, a2, a3, a4, a5, a6, a7, a8, a9⟩ := RCells.ten Br
        go_wp2
        rw [← hW]
        clear hW Br e0 e1 e2 e3 e4 e5 e6 e7 e8 e9
        go_loop [37] (fun i => ∃ j : Nat, j ≤ 7 ∧ i = .int .i64 j ∧ Hid (∀ q, q < j → Rules.ok7 r q = true)) (fun i => 7 - (intOf i).toNat)
        case atStart => exact ⟨0, by omega, rfl, Lib.hid fun j hj => absurd hj (Nat.not_lt_zero _)⟩
        case round =>
          obtain ⟨j, hj, rfl, HQ⟩ := hrel
          by_cases hj7 : j < 7
          · cases hok : Rules.ok7 r j
            · have HN := Lib.hid (Rules.may_no hj7 hok)
              rcases (show j = 0 ∨ j = 1 ∨ j = 2 ∨ j = 3 ∨ j = 4 ∨ j = 5 ∨ j = 6 by omega) with rfl | rfl | rfl | rfl | rfl | rfl | rfl
              · have i1 : ∀ w : World, (Instr.index 55 (.agg #[.int .i64 r.fr, .int .i64 r.to, .int .i64 r.proto, .int .i64 r.sb, .int .i64 r.db, .int .i64 r.lo, .int .i64 r.hi]) (.int .i64 0)).run Try.prog w = .ok (.int .i64 r.fr) w := fun _ => by kernel_rfl
                have i2 : ∀ w : World, (Instr.index 55 (.agg #[.int .i64 7, .int .i64 7, .int .i64 255, .int .i64 32, .int .i64 32, .int .i64 65535, .int .i64 65535]) (.int .i64 0)).run Try.prog w = .ok (.int .i64 7) w := fun _ => by kernel_rfl
                simp only [Rules.ok7, Rules.withinB] at hok
                simp at hok
                go_wp2
                all_goals
                  first
                  | (exfalso; omega)
                  | (go_ret; exact ⟨ret_bool (HNO.out HN.out).symm, hbel.trans (hbW.mono hbel.size)⟩)
              · have i1 : ∀ w : World, (Instr.index 55 (.agg #[.int .i64 r.fr, .int .i64 r.to, .int .i64 r.proto, .int .i64 r.sb, .int .i64 r.db, .int .i64 r.lo, .int .i64 r.hi]) (.int .i64 1)).run Try.prog w = .ok (.int .i64 r.to) w := fun _ => by kernel_rfl
                have i2 : ∀ w : World, (Instr.index 55 (.agg #[.int .i64 7, .int .i64 7, .int .i64 255, .int .i64 32, .int .i64 32, .int .i64 65535, .int .i64 65535]) (.int .i64 1)).run Try.prog w = .ok (.int .i64 7) w := fun _ => by kernel_rfl
                simp only [Rules.ok7, Rules.withinB] at hok
                simp at hok
                go_wp2
                all_goals
                  first
                  | (exfalso; omega)
                  | (go_ret; exact ⟨ret_bool (HNO.out HN.out).symm, hbel.trans (hbW.mono hbel.size)⟩)
              · have i1 : ∀ w : World, (Instr.index 55 (.agg #[.int .i64 r.fr, .int .i64 r.to, .int .i64 r.proto, .int .i64 r.sb, .int .i64 r.db, .int .i64 r.lo, .int .i64 r.hi]) (.int .i64 2)).run Try.prog w = .ok (.int .i64 r.proto) w := fun _ => by kernel_rfl
                have i2 : ∀ w : World, (Instr.index 55 (.agg #[.int .i64 7, .int .i64 7, .int .i64 255, .int .i64 32, .int .i64 32, .int .i64 65535, .int .i64 65535]) (.int .i64 2)).run Try.prog w = .ok (.int .i64 255) w := fun _ => by kernel_rfl
                simp only [Rules.ok7, Rules.withinB] at hok
                simp at hok
                go_wp2
                all_goals
                  first
                  | (exfalso; omega)
                  | (go_ret; exact ⟨ret_bool (HNO.out HN.out).symm, hbel.trans (hbW.mono hbel.size)⟩)
              · have i1 : ∀ w : World, (Instr.index 55 (.agg #[.int .i64 r.fr, .int .i64 r.to, .int .i64 r.proto, .int .i64 r.sb, .int .i64 r.db, .int .i64 r.lo, .int .i64 r.hi]) (.int .i64 3)).run Try.prog w = .ok (.int .i64 r.sb) w := fun _ => by kernel_rfl
                have i2 : ∀ w : World, (Instr.index 55 (.agg #[.int .i64 7, .int .i64 7, .int .i64 255, .int .i64 32, .int .i64 32, .int .i64 65535, .int .i64 65535]) (.int .i64 3)).run Try.prog w = .ok (.int .i64 32) w := fun _ => by kernel_rfl
                simp only [Rules.ok7, Rules.withinB] at hok
                simp at hok
                go_wp2
                all_goals
                  first
                  | (exfalso; omega)
                  | (go_ret; exact ⟨ret_bool (HNO.out HN.out).symm, hbel.trans (hbW.mono hbel.size)⟩)
              · have i1 : ∀ w : World, (Instr.index 55 (.agg #[.int .i64 r.fr, .int .i64 r.to, .int .i64 r.proto, .int .i64 r.sb, .int .i64 r.db, .int .i64 r.lo, .int .i64 r.hi]) (.int .i64 4)).run Try.prog w = .ok (.int .i64 r.db) w := fun _ => by kernel_rfl
                have i2 : ∀ w : World, (Instr.index 55 (.agg #[.int .i64 7, .int .i64 7, .int .i64 255, .int .i64 32, .int .i64 32, .int .i64 65535, .int .i64 65535]) (.int .i64 4)).run Try.prog w = .ok (.int .i64 32) w := fun _ => by kernel_rfl
                simp only [Rules.ok7, Rules.withinB] at hok
                simp at hok
                go_wp2
                all_goals
                  first
                  | (exfalso; omega)
                  | (go_ret; exact ⟨ret_bool (HNO.out HN.out).symm, hbel.trans (hbW.mono hbel.size)⟩)
              · have i1 : ∀ w : World, (Instr.index 55 (.agg #[.int .i64 r.fr, .int .i64 r.to, .int .i64 r.proto, .int .i64 r.sb, .int .i64 r.db, .int .i64 r.lo, .int .i64 r.hi]) (.int .i64 5)).run Try.prog w = .ok (.int .i64 r.lo) w := fun _ => by kernel_rfl
                have i2 : ∀ w : World, (Instr.index 55 (.agg #[.int .i64 7, .int .i64 7, .int .i64 255, .int .i64 32, .int .i64 32, .int .i64 65535, .int .i64 65535]) (.int .i64 5)).run Try.prog w = .ok (.int .i64 65535) w := fun _ => by kernel_rfl
                simp only [Rules.ok7, Rules.withinB] at hok
                simp at hok
                go_wp2
                all_goals
                  first
                  | (exfalso; omega)
                  | (go_ret; exact ⟨ret_bool (HNO.out HN.out).symm, hbel.trans (hbW.mono hbel.size)⟩)
              · have i1 : ∀ w : World, (Instr.index 55 (.agg #[.int .i64 r.fr, .int .i64 r.to, .int .i64 r.proto, .int .i64 r.sb, .int .i64 r.db, .int .i64 r.lo, .int .i64 r.hi]) (.int .i64 6)).run Try.prog w = .ok (.int .i64 r.hi) w := fun _ => by kernel_rfl
                have i2 : ∀ w : World, (Instr.index 55 (.agg #[.int .i64 7, .int .i64 7, .int .i64 255, .int .i64 32, .int .i64 32, .int .i64 65535, .int .i64 65535]) (.int .i64 6)).run Try.prog w = .ok (.int .i64 65535) w := fun _ => by kernel_rfl
                simp only [Rules.ok7, Rules.withinB] at hok
                simp at hok
                go_wp2
                all_goals
                  first
                  | (exfalso; omega)
                  | (go_ret; exact ⟨ret_bool (HNO.out HN.out).symm, hbel.trans (hbW.mono hbel.size)⟩)
            · have HQ2 : Hid (∀ q, q < j + 1 → Rules.ok7 r q = true) := Lib.hid fun q hq => by
                by_cases e : q = j
                · subst e; exact hok
                · exact HQ.out q (by omega)
              rcases (show j = 0 ∨ j = 1 ∨ j = 2 ∨ j = 3 ∨ j = 4 ∨ j = 5 ∨ j = 6 by omega) with rfl | rfl | rfl | rfl | rfl | rfl | rfl
              · have i1 : ∀ w : World, (Instr.index 55 (.agg #[.int .i64 r.fr, .int .i64 r.to, .int .i64 r.proto, .int .i64 r.sb, .int .i64 r.db, .int .i64 r.lo, .int .i64 r.hi]) (.int .i64 0)).run Try.prog w = .ok (.int .i64 r.fr) w := fun _ => by kernel_rfl
                have i2 : ∀ w : World, (Instr.index 55 (.agg #[.int .i64 7, .int .i64 7, .int .i64 255, .int .i64 32, .int .i64 32, .int .i64 65535, .int .i64 65535]) (.int .i64 0)).run Try.prog w = .ok (.int .i64 7) w := fun _ => by kernel_rfl
                simp only [Rules.ok7, Rules.withinB] at hok
                simp at hok
                obtain ⟨hok1, hok2⟩ := hok
                go_wp2
                all_goals
                  first
                  | (exfalso; omega)
                  | (go_round
                     case rel => exact ⟨1, by omega, by go_num, Lib.hid HQ2.out⟩
                     case measure => simp [intOf])
              · have i1 : ∀ w : World, (Instr.index 55 (.agg #[.int .i64 r.fr, .int .i64 r.to, .int .i64 r.proto, .int .i64 r.sb, .int .i64 r.db, .int .i64 r.lo, .int .i64 r.hi]) (.int .i64 1)).run Try.prog w = .ok (.int .i64 r.to) w := fun _ => by kernel_rfl
                have i2 : ∀ w : World, (Instr.index 55 (.agg #[.int .i64 7, .int .i64 7, .int .i64 255, .int .i64 32, .int .i64 32, .int .i64 65535, .int .i64 65535]) (.int .i64 1)).run Try.prog w = .ok (.int .i64 7) w := fun _ => by kernel_rfl
                simp only [Rules.ok7, Rules.withinB] at hok
                simp at hok
                obtain ⟨hok1, hok2⟩ := hok
                go_wp2
                all_goals
                  first
                  | (exfalso; omega)
                  | (go_round
                     case rel => exact ⟨2, by omega, by go_num, Lib.hid HQ2.out⟩
                     case measure => simp [intOf])
              · have i1 : ∀ w : World, (Instr.index 55 (.agg #[.int .i64 r.fr, .int .i64 r.to, .int .i64 r.proto, .int .i64 r.sb, .int .i64 r.db, .int .i64 r.lo, .int .i64 r.hi]) (.int .i64 2)).run Try.prog w = .ok (.int .i64 r.proto) w := fun _ => by kernel_rfl
                have i2 : ∀ w : World, (Instr.index 55 (.agg #[.int .i64 7, .int .i64 7, .int .i64 255, .int .i64 32, .int .i64 32, .int .i64 65535, .int .i64 65535]) (.int .i64 2)).run Try.prog w = .ok (.int .i64 255) w := fun _ => by kernel_rfl
                simp only [Rules.ok7, Rules.withinB] at hok
                simp at hok
                obtain ⟨hok1, hok2⟩ := hok
                go_wp2
                all_goals
                  first
                  | (exfalso; omega)
                  | (go_round
                     case rel => exact ⟨3, by omega, by go_num, Lib.hid HQ2.out⟩
                     case measure => simp [intOf])
              · have i1 : ∀ w : World, (Instr.index 55 (.agg #[.int .i64 r.fr, .int .i64 r.to, .int .i64 r.proto, .int .i64 r.sb, .int .i64 r.db, .int .i64 r.lo, .int .i64 r.hi]) (.int .i64 3)).run Try.prog w = .ok (.int .i64 r.sb) w := fun _ => by kernel_rfl
                have i2 : ∀ w : World, (Instr.index 55 (.agg #[.int .i64 7, .int .i64 7, .int .i64 255, .int .i64 32, .int .i64 32, .int .i64 65535, .int .i64 65535]) (.int .i64 3)).run Try.prog w = .ok (.int .i64 32) w := fun _ => by kernel_rfl
                simp only [Rules.ok7, Rules.withinB] at hok
                simp at hok
                obtain ⟨hok1, hok2⟩ := hok
                go_wp2
                all_goals
                  first
                  | (exfalso; omega)
                  | (go_round
                     case rel => exact ⟨4, by omega, by go_num, Lib.hid HQ2.out⟩
                     case measure => simp [intOf])
              · have i1 : ∀ w : World, (Instr.index 55 (.agg #[.int .i64 r.fr, .int .i64 r.to, .int .i64 r.proto, .int .i64 r.sb, .int .i64 r.db, .int .i64 r.lo, .int .i64 r.hi]) (.int .i64 4)).run Try.prog w = .ok (.int .i64 r.db) w := fun _ => by kernel_rfl
                have i2 : ∀ w : World, (Instr.index 55 (.agg #[.int .i64 7, .int .i64 7, .int .i64 255, .int .i64 32, .int .i64 32, .int .i64 65535, .int .i64 65535]) (.int .i64 4)).run Try.prog w = .ok (.int .i64 32) w := fun _ => by kernel_rfl
                simp only [Rules.ok7, Rules.withinB] at hok
                simp at hok
                obtain ⟨hok1, hok2⟩ := hok
                go_wp2
                all_goals
                  first
                  | (exfalso; omega)
                  | (go_round
                     case rel => exact ⟨5, by omega, by go_num, Lib.hid HQ2.out⟩
                     case measure => simp [intOf])
              · have i1 : ∀ w : World, (Instr.index 55 (.agg #[.int .i64 r.fr, .int .i64 r.to, .int .i64 r.proto, .int .i64 r.sb, .int .i64 r.db, .int .i64 r.lo, .int .i64 r.hi]) (.int .i64 5)).run Try.prog w = .ok (.int .i64 r.lo) w := fun _ => by kernel_rfl
                have i2 : ∀ w : World, (Instr.index 55 (.agg #[.int .i64 7, .int .i64 7, .int .i64 255, .int .i64 32, .int .i64 32, .int .i64 65535, .int .i64 65535]) (.int .i64 5)).run Try.prog w = .ok (.int .i64 65535) w := fun _ => by kernel_rfl
                simp only [Rules.ok7, Rules.withinB] at hok
                simp at hok
                obtain ⟨hok1, hok2⟩ := hok
                go_wp2
                all_goals
                  first
                  | (exfalso; omega)
                  | (go_round
                     case rel => exact ⟨6, by omega, by go_num, Lib.hid HQ2.out⟩
                     case measure => simp [intOf])
              · have i1 : ∀ w : World, (Instr.index 55 (.agg #[.int .i64 r.fr, .int .i64 r.to, .int .i64 r.proto, .int .i64 r.sb, .int .i64 r.db, .int .i64 r.lo, .int .i64 r.hi]) (.int .i64 6)).run Try.prog w = .ok (.int .i64 r.hi) w := fun _ => by kernel_rfl
                have i2 : ∀ w : World, (Instr.index 55 (.agg #[.int .i64 7, .int .i64 7, .int .i64 255, .int .i64 32, .int .i64 32, .int .i64 65535, .int .i64 65535]) (.int .i64 6)).run Try.prog w = .ok (.int .i64 65535) w := fun _ => by kernel_rfl
                simp only [Rules.ok7, Rules.withinB] at hok
                simp at hok
                obtain ⟨hok1, hok2⟩ := hok
                go_wp2
                all_goals
                  first
                  | (exfalso; omega)
                  | (go_round
                     case rel => exact ⟨7, by omega, by go_num, Lib.hid HQ2.out⟩
                     case measure => simp [intOf])
          · obtain rfl : j = 7 := by omega
            by_cases c1 : r.lo ≤ r.hi
            · have n1 : ¬ r.hi < r.lo := by omega
              by_cases c2 : r.act = 1 ∨ r.act = 2
              · have hmay := Lib.hid ((Rules.may_iff r).2 ⟨HQ.out, c1, c2⟩)
                rcases c2 with c2 | c2
                all_goals
                  have m1 := a7
                  go_wp2
                  go_roundw
                  case rel =>
                    refine ⟨k + 1, by omega, by go_num, hbel.trans (hbW.mono hbel.size), Lib.hid fun q hq => ?_⟩
                    by_cases e : q = k
                    · subst e; rw [HY.out]; exact hmay.out
                    · exact HM.out q (by omega)
                  case measure => simp [intOf]; omega
              · have hno : Rules.mayB r = false := by
                  cases hm : Rules.mayB r
                  · rfl
                  · exact absurd ((Rules.may_iff r).1 hm).2.2 c2
                have HN := Lib.hid (HNO.out hno)
                have n2 : (r.act != 1) = true := by simp; omega
                have n3 : (r.act != 2) = true := by simp; omega
                clear c2 hno
                go_wp2
                go_ret
                exact ⟨ret_bool HN.out.symm, hbel.trans (hbW.mono hbel.size)⟩
            · have n1 : r.hi < r.lo := by omega
              have hno : Rules.mayB r = false := by
                cases hm : Rules.mayB r
                · rfl
                · exact absurd ((Rules.may_iff r).1 hm).2.1 c1
              have HN := Lib.hid (HNO.out hno)
              clear c1 hno
              go_wp2
              go_ret
              exact ⟨ret_bool HN.out.symm, hbel.trans (hbW.mono hbel.size)⟩
      · have hltz : ¬ (k : Int) < (n : Int) := by omega
        have : k = n := by omega
        subst this
        go_wp2
        go_ret
        refine ⟨ret_bool ?_, hbel⟩
        rw [Rules.right_yes (by omega) (by rw [hl]; exact HM.out)]
end Go.Proofs.Ytdocojhjknhjnaa
