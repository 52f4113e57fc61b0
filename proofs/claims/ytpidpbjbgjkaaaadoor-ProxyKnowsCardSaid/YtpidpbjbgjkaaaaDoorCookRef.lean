/- The reference's walks: number, Size, Right. -/
import Derived.Test.YtpidpbjbgjkaaaaDoorCookText
namespace Go.Proofs.YtpidpbjbgjkaaaaDoor
open Go.RowKit
set_option linter.unusedVariables false
attribute [local go_sem ↓] Go.wp_at_zero Go.wp_at_succ
namespace Cook
def num (m : Int) : Nat → List Int
  | 0 => []
  | k + 1 => num (m / 256) k ++ [m % 256]
theorem num_len (k : Nat) : ∀ m, (num m k).length = k := by
  induction k with
  | zero => intro m; rfl
  | succ k ih => intro m; simp [num, ih]
theorem num1 (p : Int) : num (p % 4294967296) 1 = [p % 256] := by
  simp only [num, List.nil_append]; congr 1; omega
theorem num2 (p : Int) : num (p % 4294967296) 2 = h2 p := by
  simp only [num, h2, List.nil_append, List.cons_append]; congr 1; omega; congr 1; omega
theorem num4 (p : Int) : num p 4 = w4 p := by
  simp only [num, w4, List.nil_append, List.cons_append]; congr 1; omega; congr 1; omega
end Cook
set_option maxHeartbeats 2000000 in
theorem rnumber_spec (m0 : Int) (size : Nat) (h0 : 0 ≤ m0) (h1 : m0 ≤ 4294967295) (hs : size ≤ 4) (w : World) :
    Calls Tryd.prog 71 #[.int .u32 m0, .int .i64 size] w fun e w' => ∃ A c, e = .returned (.slice A size c) ∧ w'.ownsRow w.heap.size 5 1 (.slice A size c) size (bs (Cook.num m0 size)) ∧ Below w.heap.size w w' := by
  have HN := Lib.hid (Cook.num_len size m0)
  go_enter Tryd.func71, Tryd.ntmps71
  go_wp2_with fail
  go_loopg [0, 5, 6] size (fun g s0 s5 s6 wx => ∃ (i : Nat) (m : Int) (A : Option Addr) (c : Nat) (out : List Int), i + g = size ∧ s0 = .int .u32 m ∧ 0 ≤ m ∧ m ≤ 4294967295 ∧ s5 = .slice A i c ∧ s6 = .int .i64 i ∧ wx.ownsRow w.heap.size 5 1 (.slice A i c) i (bs out) ∧ Below w.heap.size w wx ∧ Hid (Cook.num m g ++ out = Cook.num m0 size))
  case atStart => exact ⟨0, m0, none, 0, [], by omega, rfl, h0, h1, rfl, rfl, World.ownsRow_nil _ _ _ _, Below.refl _ _, Lib.hid (by simp)⟩
  case round =>
    obtain ⟨i, m, A, c, out, hi, rfl, hm0, hm1, rfl, rfl, hown, hbx, hpre⟩ := hrel
    have HO := Lib.hid hown
    have hbxs := hbx.size
    clear hown
    cases gk with
    | zero =>
      have his : i = size := by omega
      subst his
      go_wp2_with fail
      go_ret
      have e := hpre.out
      simp only [Cook.num, List.nil_append] at e
      exact ⟨A, c, rfl, by rw [← e]; exact HO.out, hbx⟩
    | succ g =>
      have hiz : (i : Int) < (size : Int) := by omega
      have hq : Int.tdiv m 256 = m / 256 := Int.tdiv_eq_ediv_of_nonneg hm0
      have hr : Int.tmod m 256 = m % 256 := Int.tmod_eq_emod_of_nonneg hm0
      obtain ⟨wo, rfl⟩ : ∃ wo : World, wo = wr := ⟨_, rfl⟩
      go_wp2_with (at_builtin; refine wpList_app _ rfl (.tmp 15) (.tmp 16) 27 rfl w (by exact hbx.alloc hbxs _) 5 (.int .u8 0) 1 1 Tryd.underlying27 pad_info8 rfl (by decide) _ 1 (bs [m % 256]) rfl (by exact World.ownsRow_lit wo #[.int .u8 (m % 256)] 1 hbxs (by decide) rfl) A i c (bs out) rfl (by exact (Rd.of_own HO.out).alloc _) (one_bs _) (by unfold maxLen; omega) (by omega) ?_; intro A3 c3 w3 hown3 hb3 hg3 hat3)
      go_roundg g
      case measure => omega
      case rel => exact ⟨i + 1, m / 256, A3, c3, [m % 256] ++ out, by omega, by go_num, by omega, by omega, by rw [Nat.add_comm], by go_num, by rw [bs_append, Nat.add_comm i 1]; exact hown3, hb3, Lib.hid (by rw [← hpre.out, Cook.num, List.append_assoc])⟩
set_option maxHeartbeats 1000000 in
theorem rright_spec (t : Cook.Tup) (w : World) : Calls Tryd.prog 47 #[.agg #[.int .i64 t.proto, .int .u32 t.src, .int .i64 t.sport, .int .u32 t.dst, .int .i64 t.dport]] w fun e w' => e = .returned (.bool t.right) ∧ Below w.heap.size w w' := by
  obtain ⟨W, hW⟩ : ∃ W, W = w.alloc (.cells #[.int .i64 t.proto, .int .u32 t.src, .int .i64 t.sport, .int .u32 t.dst, .int .i64 t.dport] 25) := ⟨_, rfl⟩
  have hbW : Below w.heap.size w W := by rw [hW]; exact (Below.refl _ _).alloc (Nat.le_refl _) _
  obtain ⟨a0, a1, a2, a3, a4⟩ := tup_c5 W t w.heap.size (by rw [hW]; exact BlkV.new _ _ _) W (Below.refl _ _)
  have hR : Hid (∀ b : Bool, (b = true ↔ 0 ≤ t.proto ∧ t.proto ≤ 255 ∧ 0 ≤ t.sport ∧ t.sport ≤ 65535 ∧ 0 ≤ t.dport ∧ t.dport ≤ 65535) → t.right = b) := Lib.hid fun b h => by
    unfold Cook.Tup.right
    cases b
    · rw [decide_eq_false]; intro h'; exact absurd (h.2 h') (by simp)
    · rw [decide_eq_true]; exact h.1 rfl
  generalize t.right = rt at hR ⊢
  rcases (show ¬ 0 ≤ t.proto ∨ (0 ≤ t.proto ∧ ¬ t.proto < 256) ∨ (0 ≤ t.proto ∧ t.proto < 256 ∧ ¬ 0 ≤ t.sport) ∨ (0 ≤ t.proto ∧ t.proto < 256 ∧ 0 ≤ t.sport ∧ ¬ t.sport < 65536) ∨ (0 ≤ t.proto ∧ t.proto < 256 ∧ 0 ≤ t.sport ∧ t.sport < 65536 ∧ ¬ 0 ≤ t.dport) ∨ (0 ≤ t.proto ∧ t.proto < 256 ∧ 0 ≤ t.sport ∧ t.sport < 65536 ∧ 0 ≤ t.dport ∧ ¬ t.dport < 65536) ∨ (0 ≤ t.proto ∧ t.proto < 256 ∧ 0 ≤ t.sport ∧ t.sport < 65536 ∧ 0 ≤ t.dport ∧ t.dport < 65536) by omega) with h | ⟨h1, h⟩ | ⟨h1, h2, h⟩ | ⟨h1, h2, h3, h⟩ | ⟨h1, h2, h3, h4, h⟩ | ⟨h1, h2, h3, h4, h5, h⟩ | ⟨h1, h2, h3, h4, h5, h⟩
  all_goals
    go_enter Tryd.func47, Tryd.ntmps47
    go_upto_region 1 with (fail)
    rw [← hW]
    clear hW
    go_wp2_with fail
    go_ret
    exact ⟨ret_bool (hR.out _ (by simp; omega)).symm, hbW⟩
end Go.Proofs.YtpidpbjbgjkaaaaDoor
