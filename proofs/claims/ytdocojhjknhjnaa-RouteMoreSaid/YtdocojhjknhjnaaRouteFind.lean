/- The walks of route.Find and route.Zone. -/
import Derived.Test.YtdocojhjknhjnaaRouteFindN
namespace Go.Proofs.Ytdocojhjknhjnaa
open Go.RowKit
set_option linter.unusedVariables false
namespace Route
def zero : R := ⟨0, 0, 0, 0⟩
def findOk (l : List R) (a : Int) : Bool := rightB l && decide (0 ≤ best l a l.length)
def findV (l : List R) (a : Int) : R := if findOk l a = true then l[(best l a l.length).toNat]! else zero
def zoneV (l : List R) (a : Int) : Int := if findOk l a = true then (findV l a).zone else -1
theorem ends_next (l : List R) (k m : Nat) (hm : l[k]!.bits = m) : (fun (d : Nat) (x : Int) => if d = m ∧ x = l[k]!.net / 2 ^ (32 - m) then (k : Int) else ends l d x k) = fun d x => ends l d x (k + 1) := by
  funext d x
  simp only [ends]
  by_cases e : d = m
  · subst e
    by_cases e2 : x = l[k]!.net / 2 ^ (32 - d)
    · rw [if_pos ⟨rfl, e2⟩, if_pos ⟨hm, e2.symm⟩]
    · rw [if_neg (fun h => e2 h.2), if_neg (fun h => e2 h.2.symm)]
  · rw [if_neg (fun h => e h.1), if_neg (fun h => e (by have := h.1; rw [hm] at this; omega))]
theorem tree_root (w : World) (T : TypeId) (l : List R) : Tree (w.alloc (.cells #[.int .i64 (-1), .pointer none, .pointer none] T)) w.heap.size T (fun d x => if d = 0 ∧ x = 0 then some w.heap.size else none) (fun d x => ends l d x 0) := by
  refine ⟨fun d x g hg => ?_, fun d x d' x' g h1 h2 => ?_, fun d x g hg => ?_, fun d x _ => rfl⟩
  · split at hg
    · rename_i e
      obtain ⟨rfl, rfl⟩ := e
      obtain rfl := Option.some.inj hg
      refine ⟨Nat.le_refl _, ?_⟩
      rw [if_neg (by omega), if_neg (by omega)]
      exact heap_alloc_new w _
    · cases hg
  · split at h1
    · split at h2
      · rename_i e1 e2
        exact ⟨by omega, by omega⟩
      · cases h2
    · cases h1
  · rw [if_neg (by omega)] at hg
    cases hg
theorem best_lt (l : List R) (a : Int) (k : Nat) : best l a k < k := by
  rcases best_spec l a k with ⟨h, _⟩ | ⟨i, h, h2, _⟩ <;> omega
end Route
open Route in
set_option maxHeartbeats 8000000 in
theorem find_spec (A : Option Addr) (n c : Nat) (l : List Route.R) (a : Int) (w : World) (hrd : RdRoutes w A n l) (hwf : ∀ r ∈ l, r.wf) (hnc : n ≤ c) (hc : c ≤ 9223372036854775807) (a0 : 0 ≤ a) (a1 : a ≤ 4294967295) :
    Calls Try.prog 20 #[.slice A n c, .int .u32 a] w fun e w' => e = .returned (.tuple #[.agg (findV l a).cells.toArray, .bool (findOk l a)]) ∧ Below w.heap.size w w' := by
  obtain ⟨W, hW⟩ : ∃ W, W = w.alloc (.cells #[.int .u32 0, .int .i64 0, .int .i64 0, .int .i64 0] 40) := ⟨_, rfl⟩
  have hbW : Below w.heap.size w W := by rw [hW]; exact (Below.refl _ _).alloc (Nat.le_refl _) _
  have Bz : RCells W w.heap.size zero.cells := by rw [hW]; exact RCells.new w zero.cells 40
  have Fz : ∀ i, W.frozen? ⟨w.heap.size, i, none⟩ = false := fun i => by rw [hW]; exact frozen_of_row _ _ _ _ _ (heap_alloc_new w _)
  have hrW := hrd.below hbW
  have hl := hrd.1
  have hright := tright_spec A n c l W hrW hwf hnc hc
  have HWF := Lib.hid hwf
  clear hwf hrd
  cases hq : rightB l
  · have hok : findOk l a = false := by unfold findOk; rw [hq]; rfl
    have hv : findV l a = zero := by unfold findV; rw [hok]; rfl
    rw [hok, hv]
    rw [hq] at hright
    go_enter Try.func20, Try.ntmps20
    go_wp2_with fail
    rw [← hW]
    refine hright.mono ?_
    rintro e w1 ⟨rfl, hb1⟩
    have z0 : w1.cell? ⟨w.heap.size, 0, none⟩ = some (.int .u32 0) := (Bz.below hb1).2 0 _ rfl
    have z1 : w1.cell? ⟨w.heap.size, 1, none⟩ = some (.int .i64 0) := (Bz.below hb1).2 1 _ rfl
    have z2 : w1.cell? ⟨w.heap.size, 2, none⟩ = some (.int .i64 0) := (Bz.below hb1).2 2 _ rfl
    have z3 : w1.cell? ⟨w.heap.size, 3, none⟩ = some (.int .i64 0) := (Bz.below hb1).2 3 _ rfl
    have f0 : ∀ i, w1.frozen? ⟨w.heap.size, i, none⟩ = false := fun i => (hb1.frozen (p := ⟨w.heap.size, i, none⟩) Bz.1).trans (Fz i)
    have hbT := bel_then hbW hb1
    have y0 := f0 0
    have y1 := f0 1
    have y2 := f0 2
    have y3 := f0 3
    clear hright hW Bz Fz hrW f0
    go_wp2
    refine bodyPost_ret (v := .tuple #[.agg #[.int .u32 0, .int .i64 0, .int .i64 0, .int .i64 0], .bool false]) (by simp [results, Try.results20, go_sem, z0, z1, z2, z3]) rfl ⟨rfl, ?_⟩
    exact (((hbT.setCell (Nat.le_refl _) _).setCell (Nat.le_refl _) _).setCell (Nat.le_refl _) _).setCell (Nat.le_refl _) _
  · rw [hq] at hright
    have HQ := Lib.hid hq
    go_enter Try.func20, Try.ntmps20
    go_wp2_with fail
    rw [← hW]
    refine hright.mono ?_
    rintro e w1 ⟨rfl, hb1⟩
    have r1 := hrW.below hb1
    have hbT := bel_then hbW hb1
    have T0 := Lib.hid (tree_root w1 59 l)
    have Bz1 := Bz.below hb1
    have Fz1 : ∀ i, w1.frozen? ⟨w.heap.size, i, none⟩ = false := fun i => (hb1.frozen (p := ⟨w.heap.size, i, none⟩) Bz.1).trans (Fz i)
    have F1 := Lib.hid Fz1
    clear hright hW Bz Fz hrW hq Fz1
    go_wp2
    go_loopw [7, 8, 18] (fun _ _ i wr => ∃ k : Nat, k ≤ n ∧ i = .int .i64 k ∧ Below w1.heap.size w1 wr ∧ Hid (∃ f, Tree wr w1.heap.size 59 f (fun d x => ends l d x k) ∧ f 0 0 = some w1.heap.size)) (fun _ _ i _ => n - (intOf i).toNat)
    case atStart => exact ⟨0, by omega, rfl, (Below.refl _ _).alloc (Nat.le_refl _) _, Lib.hid ⟨_, T0.out, by simp⟩⟩
    case round =>
      obtain ⟨k, hk, rfl, hbel, HT⟩ := hrel
      by_cases hlt : k < n
      · have hltz : (k : Int) < (n : Int) := by omega
        obtain ⟨b, off, rfl, l2⟩ := (r1.below hbel).2.2 k hlt
        have hrwf : (l[k]!).wf := HWF.out _ (by rw [getElem!_pos l k (by omega)]; exact List.getElem_mem _)
        have hmay := (may_iff.1 (right_step HQ.out (i := k) (by omega)).1).1
        obtain ⟨m, hm⟩ : ∃ m : Nat, l[k]!.bits = m := ⟨_, (Int.toNat_of_nonneg hmay.1).symm⟩
        have hen := ends_next l k m hm
        have hm32 : m ≤ 32 := by omega
        clear hmay
        generalize l[k]! = r at l2 hrwf hm hen
        obtain ⟨e0, e1, e2, e3⟩ := l2.four
        have hlb := l2.1
        have hal : Below wr.heap.size wr (wr.alloc (.cells #[.int .u32 r.net, .int .i64 r.bits, .int .i64 r.zone, .int .i64 r.mtu] 40)) := (Below.refl _ _).alloc (Nat.le_refl _) _
        have hput : Calls Try.prog 35 #[.pointer (some ⟨w1.heap.size, 0, none⟩), .agg #[.int .u32 r.net, .int .i64 r.bits, .int .i64 r.zone, .int .i64 r.mtu], .int .i64 k] (wr.alloc (.cells #[.int .u32 r.net, .int .i64 r.bits, .int .i64 r.zone, .int .i64 r.mtu] 40)) fun e w' => e = .returned (.tuple #[]) ∧ Below w1.heap.size (wr.alloc (.cells #[.int .u32 r.net, .int .i64 r.bits, .int .i64 r.zone, .int .i64 r.mtu] 40)) w' ∧ ∃ f', Tree w' w1.heap.size 59 f' (fun d x => ends l d x (k + 1)) ∧ f' 0 0 = some w1.heap.size := by
          obtain ⟨f, h1, h2⟩ := HT.out
          rw [← hen]
          exact put_spec w1.heap.size r k _ w1.heap.size f _ (h1.below hal) h2 (Nat.le_trans hbel.size hal.size) hrwf m hm hm32
        clear l2 hen hm
        go_wp2_with (go_at_call 35; refine (hput).mono ?_; rintro e w3 ⟨rfl, hb3, f', T3⟩)
        go_roundw
        case rel => exact ⟨k + 1, by omega, by go_num, (hbel.trans (hal.mono hbel.size)).trans hb3, Lib.hid ⟨f', T3⟩⟩
        case measure => simp [intOf]; omega
      · have hltz : ¬ (k : Int) < (n : Int) := by omega
        have : k = n := by omega
        subst this
        have hfind : Calls Try.prog 36 #[.pointer (some ⟨w1.heap.size, 0, none⟩), .int .u32 a] wr fun e w' => e = .returned (.int .i64 (best l a l.length)) ∧ Below wr.heap.size wr w' := by
          obtain ⟨f, h1, h2⟩ := HT.out
          rw [← scan_best HQ.out a, ← scanF_scan, hl]
          exact findn_spec w1.heap.size a wr w1.heap.size f _ h1 h2 a0 a1
        have hbl := best_lt l a l.length
        have hok : findOk l a = decide (0 ≤ best l a l.length) := by unfold findOk; rw [HQ.out, Bool.true_and]
        have hfv : findV l a = if findOk l a = true then l[(best l a l.length).toNat]! else zero := rfl
        generalize best l a l.length = q at hfind hbl hok hfv
        go_wp2_with fail
        refine hfind.mono ?_
        rintro e w5 ⟨rfl, hb5⟩
        have hbel5 := hbel.trans (hb5.mono hbel.size)
        have hbU := bel_then hbT hbel5
        have Bz5 := Bz1.below hbel5
        have z0 : w5.cell? ⟨w.heap.size, 0, none⟩ = some (.int .u32 0) := Bz5.2 0 _ rfl
        have z1 : w5.cell? ⟨w.heap.size, 1, none⟩ = some (.int .i64 0) := Bz5.2 1 _ rfl
        have z2 : w5.cell? ⟨w.heap.size, 2, none⟩ = some (.int .i64 0) := Bz5.2 2 _ rfl
        have z3 : w5.cell? ⟨w.heap.size, 3, none⟩ = some (.int .i64 0) := Bz5.2 3 _ rfl
        have f0 : ∀ i, w5.frozen? ⟨w.heap.size, i, none⟩ = false := fun i => (hbel5.frozen (p := ⟨w.heap.size, i, none⟩) Bz1.1).trans (F1.out i)
        have y0 := f0 0
        have y1 := f0 1
        have y2 := f0 2
        have y3 := f0 3
        clear hfind Bz1 Bz5 f0
        by_cases h0 : q < 0
        · have hok2 : findOk l a = false := by rw [hok]; simp; omega
          rw [hok2] at hfv
          have hfv2 : findV l a = zero := by rw [hfv]; simp
          have HF := Lib.hid (And.intro hok2 hfv2)
          clear hok hfv hok2 hfv2
          go_wp2
          refine bodyPost_ret (v := .tuple #[.agg #[.int .u32 0, .int .i64 0, .int .i64 0, .int .i64 0], .bool false]) (by simp [results, Try.results20, go_sem, z0, z1, z2, z3]) rfl ⟨by rw [HF.out.1, HF.out.2]; rfl, ?_⟩
          exact (((hbU.setCell (Nat.le_refl _) _).setCell (Nat.le_refl _) _).setCell (Nat.le_refl _) _).setCell (Nat.le_refl _) _
        · obtain ⟨j, rfl⟩ : ∃ j : Nat, q = j := ⟨q.toNat, by omega⟩
          have hok2 : findOk l a = true := by rw [hok]; simp
          rw [hok2, Int.toNat_natCast] at hfv
          have hfv2 : findV l a = l[j]! := by rw [hfv]; simp
          obtain ⟨b, off, rfl, l2⟩ := (r1.below hbel5).2.2 j (by omega)
          generalize l[j]! = r at l2 hfv2
          obtain ⟨e0, e1, e2, e3⟩ := l2.four
          have hlb := l2.1
          have HF := Lib.hid (And.intro hok2 hfv2)
          clear hok hfv hok2 hfv2 l2
          have hjn : j < k := by omega
          go_wp2
          refine bodyPost_ret (v := .tuple #[.agg #[.int .u32 r.net, .int .i64 r.bits, .int .i64 r.zone, .int .i64 r.mtu], .bool true]) (by simp [results, Try.results20, go_sem, z0, z1, z2, z3]) rfl ⟨by rw [HF.out.1, HF.out.2]; rfl, ?_⟩
          exact (((hbU.setCell (Nat.le_refl _) _).setCell (Nat.le_refl _) _).setCell (Nat.le_refl _) _).setCell (Nat.le_refl _) _
end Go.Proofs.Ytdocojhjknhjnaa
