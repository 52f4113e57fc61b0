/- The walks of route.bit, of a node's put and find. -/
import Derived.Test.YtdocojhjknhjnaaRouteTree
namespace Go.Proofs.Ytdocojhjknhjnaa
open Go.RowKit
set_option linter.unusedVariables false
theorem bit_spec (a : Int) (j : Nat) (w : World) (hj : j ≤ 31) (a0 : 0 ≤ a) (a1 : a ≤ 4294967295) :
    Calls Try.prog 41 #[.int .u32 a, .int .i64 j] w fun e w' => e = .returned (.int .i64 (a / 2 ^ (31 - j) % 2)) ∧ w = w' := by
  have h1 : bits .and .u32 (a / 2 ^ (31 - j)) 1 = a / 2 ^ (31 - j) % 2 := bits_low .u32 1 1 rfl rfl (by decide) _
  have h2 : wrap64 (a / 2 ^ (31 - j) % 2) = a / 2 ^ (31 - j) % 2 := by
    have : 0 ≤ a / 2 ^ (31 - j) % 2 ∧ a / 2 ^ (31 - j) % 2 < 2 := by omega
    generalize a / 2 ^ (31 - j) % 2 = y at this ⊢
    unfold wrap64
    omega
  go_enter Try.func41, Try.ntmps41
  go_wp2
  go_ret
  exact ⟨rfl, rfl⟩
theorem RCells.set {w : World} {g : Nat} {cs : List Value} (h : RCells w g cs) {b i : Nat} (hne : g ≠ b) (v : Value) : RCells (w.setCell ⟨b, i, none⟩ v) g cs :=
  ⟨by simpa using h.1, fun j u hu => by
    rw [World.cell?_of_block (w := w) (a := ⟨g, j, none⟩) (Below.heap_setCell _ _ _ _ hne)]
    exact h.2 j u hu⟩
theorem RCells.alloc {w : World} {g : Nat} {cs : List Value} (h : RCells w g cs) (o : Obj) : RCells (w.alloc o) g cs := h.below ((Below.refl _ _).alloc (Nat.le_refl _) _)
theorem Route.upd_at (f : Nat → Int → Option Nat) (d : Nat) (y y' : Int) (g : Nat) (h : y' = y) : Route.upd f d y g d y' = some g := by unfold Route.upd; rw [if_pos ⟨rfl, h⟩]
theorem Route.upd_root (f : Nat → Int → Option Nat) (d : Nat) (y : Int) (g : Nat) : Route.upd f (d + 1) y g 0 0 = f 0 0 := by unfold Route.upd; rw [if_neg (by omega)]
theorem Route.upd_ne {f : Nat → Int → Option Nat} {d : Nat} {y : Int} {g k : Nat} (h : ∀ d x g', f d x = some g' → g' ≠ k) (hg : g ≠ k) : ∀ d' x g', Route.upd f d y g d' x = some g' → g' ≠ k := by
  intro d' x g' h1
  unfold Route.upd at h1
  split at h1
  · rw [← Option.some.inj h1]; exact hg
  · exact h _ _ _ h1
open Route in
set_option maxHeartbeats 4000000 in
theorem put_spec (g0 : Nat) (r : Route.R) (num : Int) (w : World) (base : Nat) (f : Nat → Int → Option Nat) (rt : Nat → Int → Int) (h : Tree w base 59 f rt) (h0 : f 0 0 = some g0) (hb : base ≤ w.heap.size)
    (hr : r.wf) (m : Nat) (hm : r.bits = m) (hm32 : m ≤ 32) :
    Calls Try.prog 35 #[.pointer (some ⟨g0, 0, none⟩), .agg #[.int .u32 r.net, .int .i64 r.bits, .int .i64 r.zone, .int .i64 r.mtu], .int .i64 num] w fun e w' => e = .returned (.tuple #[]) ∧ Below base w w' ∧
      ∃ f', Tree w' base 59 f' (fun d x => if d = m ∧ x = r.net / 2 ^ (32 - m) then num else rt d x) ∧ f' 0 0 = some g0 := by
  obtain ⟨n0, n1⟩ := hr
  obtain ⟨W, hW⟩ : ∃ W, W = w.alloc (.cells #[.int .u32 r.net, .int .i64 r.bits, .int .i64 r.zone, .int .i64 r.mtu] 40) := ⟨_, rfl⟩
  have hbW : Below w.heap.size w W := by rw [hW]; exact (Below.refl _ _).alloc (Nat.le_refl _) _
  have Br : RCells W w.heap.size r.cells := by rw [hW]; exact RCells.new w r.cells 40
  have hWs : W.heap.size = w.heap.size + 1 := by rw [hW]; simp
  have hT := h.below hbW
  have hne : ∀ d x g', f d x = some g' → g' ≠ w.heap.size := fun d x g' hg => by have := h.lt hg; omega
  have hx0 : r.net / 2 ^ (32 - 0) = 0 := by
    show r.net / 2 ^ 32 = 0
    omega
  have c1 : W.cell? ⟨w.heap.size, 1, none⟩ = some (.int .i64 (m : Int)) := by rw [← hm]; exact Br.2 1 _ rfl
  have T0 : Hid (Tree W base 59 f rt ∧ f 0 0 = some g0 ∧ f 0 (r.net / 2 ^ (32 - 0)) = some g0 ∧ ∀ d x g', f d x = some g' → g' ≠ w.heap.size) := Lib.hid ⟨hT, h0, by rw [hx0]; exact h0, hne⟩
  have hb' : base ≤ W.heap.size := by omega
  have hbB : Below base w W := hbW.mono hb
  have HMB := Lib.hid hm
  clear h hT hne h0 hm
  go_enter Try.func35, Try.ntmps35
  go_wp2_with fail
  rw [← hW, HMB.out]
  clear hW hbW
  go_loopw [0, 6, 7, 10] (fun p _ _ i wr => ∃ (k g : Nat) (f' : Nat → Int → Option Nat), k ≤ m ∧ i = .int .i64 k ∧ p = .pointer (some ⟨g, 0, none⟩) ∧ Hid (Tree wr base 59 f' rt ∧ f' 0 0 = some g0 ∧ f' k (r.net / 2 ^ (32 - k)) = some g ∧ ∀ d x g', f' d x = some g' → g' ≠ w.heap.size) ∧ Below base w wr ∧ RCells wr w.heap.size r.cells) (fun _ _ _ i _ => m - (intOf i).toNat)
  case atStart => exact ⟨0, g0, f, by omega, rfl, rfl, T0, hbB, Br⟩
  case round =>
    obtain ⟨k, g, f', hk, rfl, rfl, HT, hbel, Brr⟩ := hrel
    obtain ⟨t1, t2, t3, t4⟩ := HT.out
    obtain ⟨q0, q1, q2⟩ := t1.cells t3
    have hbase : base ≤ wr.heap.size := Nat.le_trans hb hbel.size
    have hgb := (t1.node _ _ _ t3).1
    have hfz : ∀ i, wr.frozen? ⟨g, i, none⟩ = false := fun i => frozen_of_row _ _ _ _ _ (t1.node _ _ _ t3).2
    by_cases hlt : k < m
    · have hltz : (k : Int) < (m : Int) := by omega
      have c0 : wr.cell? ⟨w.heap.size, 0, none⟩ = some (.int .u32 r.net) := Brr.2 0 _ rfl
      have hway := way_next r.net k (by omega)
      have hbit := fun V => bit_spec r.net k V (by omega) n0 n1
      have hb01 : r.net / 2 ^ (31 - k) % 2 = 0 ∨ r.net / 2 ^ (31 - k) % 2 = 1 := by omega
      have hk1 : 32 - (k + 1) = 31 - k := by omega
      have hne2 : g ≠ w.heap.size := t4 _ _ _ t3
      rcases hb01 with e | e
      · rw [e] at hbit hway
        rw [Int.add_zero] at hway
        cases hnx : f' (k + 1) (2 * (r.net / 2 ^ (32 - k))) with
        | some g2 =>
          rw [hnx] at q1
          have HN : Hid (f' (k + 1) (r.net / 2 ^ (32 - (k + 1))) = some g2) := by show _ = _; rw [hk1, hway]; exact hnx
          clear q0 q2 hfz hway e t1 t2 t3 t4 hnx
          simp only [ptrO] at q1
          go_wp2_with (go_at_call 41; refine (hbit _).mono ?_; rintro e w' ⟨rfl, rfl⟩)
          go_roundw
          case rel => exact ⟨k + 1, g2, f', by omega, by go_num, rfl, Lib.hid ⟨HT.out.1, HT.out.2.1, HN.out, HT.out.2.2.2⟩, hbel, Brr⟩
          case measure => simp [intOf]; omega
        | none =>
          rw [hnx] at q1
          have hz := hfz 1
          have HG := Lib.hid (t1.grow t3 0 (.inl rfl) (by simpa using hnx) hbase)
          have hglt := t1.lt t3
          have hWr := Brr.1
          clear q0 q2 hfz e t1 t2 t3 t4 hnx
          simp only [ptrO] at q1
          go_wp2_with (go_at_call 41; refine (hbit _).mono ?_; rintro e w' ⟨rfl, rfl⟩)
          go_roundw
          case rel =>
            refine ⟨k + 1, wr.heap.size, _, by omega, by go_num, rfl, Lib.hid ⟨HG.out, ?_, ?_, ?_⟩, ((hbel.setCell hgb _).alloc (by simp; exact hbase) _), ((Brr.set (Ne.symm hne2) _).alloc _)⟩
            · rw [Route.upd_root]; exact HT.out.2.1
            · refine Route.upd_at _ _ _ _ _ ?_
              rw [hk1, hway]; simp
            · exact Route.upd_ne HT.out.2.2.2 (by omega)
          case measure => simp [intOf]; omega
      · rw [e] at hbit hway
        cases hnx : f' (k + 1) (2 * (r.net / 2 ^ (32 - k)) + 1) with
        | some g2 =>
          rw [hnx] at q2
          have HN : Hid (f' (k + 1) (r.net / 2 ^ (32 - (k + 1))) = some g2) := by show _ = _; rw [hk1, hway]; exact hnx
          clear q0 q1 hfz hway e t1 t2 t3 t4 hnx
          simp only [ptrO] at q2
          go_wp2_with (go_at_call 41; refine (hbit _).mono ?_; rintro e w' ⟨rfl, rfl⟩)
          go_roundw
          case rel => exact ⟨k + 1, g2, f', by omega, by go_num, rfl, Lib.hid ⟨HT.out.1, HT.out.2.1, HN.out, HT.out.2.2.2⟩, hbel, Brr⟩
          case measure => simp [intOf]; omega
        | none =>
          rw [hnx] at q2
          have hz := hfz 2
          have HG := Lib.hid (t1.grow t3 1 (.inr rfl) (by simpa using hnx) hbase)
          have hglt := t1.lt t3
          have hWr := Brr.1
          clear q0 q1 hfz e t1 t2 t3 t4 hnx
          simp only [ptrO] at q2
          go_wp2_with (go_at_call 41; refine (hbit _).mono ?_; rintro e w' ⟨rfl, rfl⟩)
          go_roundw
          case rel =>
            refine ⟨k + 1, wr.heap.size, _, by omega, by go_num, rfl, Lib.hid ⟨HG.out, ?_, ?_, ?_⟩, ((hbel.setCell hgb _).alloc (by simp; exact hbase) _), ((Brr.set (Ne.symm hne2) _).alloc _)⟩
            · rw [Route.upd_root]; exact HT.out.2.1
            · refine Route.upd_at _ _ _ _ _ ?_
              rw [hk1, hway]; simp
            · exact Route.upd_ne HT.out.2.2.2 (by omega)
          case measure => simp [intOf]; omega
    · have hltz : ¬ (k : Int) < (m : Int) := by omega
      have : k = m := by omega
      subst this
      have hz := hfz 0
      have HS := Lib.hid (t1.set t3 num)
      clear q1 q2 hfz t1 t3 t4
      go_wp2
      go_end0
      exact ⟨rfl, hbel.setCell hgb _, f', HS.out, HT.out.2.1⟩
end Go.Proofs.Ytdocojhjknhjnaa
