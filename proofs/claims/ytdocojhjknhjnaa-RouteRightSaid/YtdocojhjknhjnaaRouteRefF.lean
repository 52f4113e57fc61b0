/- The walks of the reference's Find and Zone of routes. -/
import Derived.Test.YtdocojhjknhjnaaRouteRefR
namespace Go.Proofs.Ytdocojhjknhjnaa
open Go.RowKit
set_option linter.unusedVariables false
namespace Route
def bestR (l : List R) (a : Int) (k : Nat) : R := if best l a k < 0 then ⟨0, -1, 0, 0⟩ else l[(best l a k).toNat]!
theorem bestR_next {l : List R} (h : rightB l = true) (a : Int) {k : Nat} (hk : k < l.length) : bestR l a (k + 1) = if Net.inB a l[k]!.net l[k]!.bits = true ∧ (bestR l a k).bits < l[k]!.bits then l[k]! else bestR l a k := by
  have hb := (may_iff.1 (right_step h hk).1).1.1
  have hiff : (bestR l a k).bits < l[k]!.bits ↔ (best l a k < 0 ∨ l[(best l a k).toNat]!.bits < l[k]!.bits) := by
    unfold bestR
    by_cases h0 : best l a k < 0
    · rw [if_pos h0]; exact ⟨fun _ => .inl h0, fun _ => by show (-1 : Int) < _; omega⟩
    · rw [if_neg h0]; exact ⟨fun h => .inr h, fun h => h.resolve_left h0⟩
  by_cases hc : Net.inB a l[k]!.net l[k]!.bits = true ∧ (best l a k < 0 ∨ l[(best l a k).toNat]!.bits < l[k]!.bits)
  · rw [if_pos ⟨hc.1, hiff.2 hc.2⟩]
    have e : best l a (k + 1) = k := by simp only [best]; rw [if_pos hc]
    unfold bestR
    rw [e, if_neg (by omega), Int.toNat_natCast]
  · rw [if_neg (fun h1 => hc ⟨h1.1, hiff.1 h1.2⟩)]
    have e : best l a (k + 1) = best l a k := by simp only [best]; rw [if_neg hc]
    unfold bestR
    rw [e]
end Route
/-- a block of four cells, known whole -/
def Blk4 (w : World) (g : Nat) (T : TypeId) (r : Route.R) : Prop := w.heap[g]? = some (.cells r.cells.toArray T (0, 0))
theorem Blk4.below {w w' : World} {g : Nat} {T : TypeId} {r : Route.R} (h : Blk4 w g T r) (hb : Below w.heap.size w w') : Blk4 w' g T r := (hb.block g (Array.getElem?_eq_some_iff.1 h).1).trans h
theorem Blk4.cells {w : World} {g : Nat} {T : TypeId} {r : Route.R} (h : Blk4 w g T r) : w.cell? ⟨g, 0, none⟩ = some (.int .u32 r.net) ∧ w.cell? ⟨g, 1, none⟩ = some (.int .i64 r.bits) ∧ w.cell? ⟨g, 2, none⟩ = some (.int .i64 r.zone) ∧ w.cell? ⟨g, 3, none⟩ = some (.int .i64 r.mtu) :=
  ⟨cell_of_row _ _ 0 _ T (0, 0) h, cell_of_row _ _ 1 _ T (0, 0) h, cell_of_row _ _ 2 _ T (0, 0) h, cell_of_row _ _ 3 _ T (0, 0) h⟩
theorem Blk4.unfrozen {w : World} {g : Nat} {T : TypeId} {r : Route.R} (h : Blk4 w g T r) : w.frozen? ⟨g, 0, none⟩ = false ∧ w.frozen? ⟨g, 1, none⟩ = false ∧ w.frozen? ⟨g, 2, none⟩ = false ∧ w.frozen? ⟨g, 3, none⟩ = false :=
  ⟨frozen_of_row _ _ _ _ T h, frozen_of_row _ _ _ _ T h, frozen_of_row _ _ _ _ T h, frozen_of_row _ _ _ _ T h⟩
theorem Blk4.put {w : World} {g : Nat} {T : TypeId} {r : Route.R} (h : Blk4 w g T r) (x : Route.R) :
    Blk4 ((((w.setCell ⟨g, 0, none⟩ (.int .u32 x.net)).setCell ⟨g, 1, none⟩ (.int .i64 x.bits)).setCell ⟨g, 2, none⟩ (.int .i64 x.zone)).setCell ⟨g, 3, none⟩ (.int .i64 x.mtu)) g T x := by
  unfold Blk4 at h ⊢
  rw [Go.Joins.block_setCell (Go.Joins.block_setCell (Go.Joins.block_setCell (Go.Joins.block_setCell h _) _) _) _]
  simp [Route.R.cells]
open Route in
set_option maxRecDepth 4000 in
set_option maxHeartbeats 4000000 in
theorem rtfind_spec (A : Option Addr) (n c : Nat) (l : List Route.R) (a : Int) (w : World) (hrd : RdRoutes w A n l) (hwf : ∀ r ∈ l, r.wf) (hn2 : n ≤ 4294967296) (a0 : 0 ≤ a) (a1 : a ≤ 4294967295) :
    Calls Try.prog 21 #[.slice A n c, .int .u32 a] w fun e w' => e = .returned (.tuple #[.agg (findV l a).cells.toArray, .bool (findOk l a)]) ∧ Below w.heap.size w w' := by
  have hl := hrd.1
  have HWF := Lib.hid hwf
  obtain ⟨W, hW⟩ : ∃ W, W = (w.alloc (.cells #[.int .u32 0, .int .i64 0, .int .i64 0, .int .i64 0] 40)).alloc (.cells #[.int .u32 0, .int .i64 (-1), .int .i64 0, .int .i64 0] 40) := ⟨_, rfl⟩
  have hbW : Below w.heap.size w W := by rw [hW]; exact ((Below.refl _ _).alloc (Nat.le_refl _) _).alloc (by simp) _
  have Z4 : Blk4 W w.heap.size 40 ⟨0, 0, 0, 0⟩ := by
    rw [hW]
    exact Blk4.below (w := w.alloc (.cells #[.int .u32 0, .int .i64 0, .int .i64 0, .int .i64 0] 40)) (heap_alloc_new w _) ((Below.refl _ _).alloc (Nat.le_refl _) _)
  have Z6 : Blk4 W (w.heap.size + 1) 40 ⟨0, -1, 0, 0⟩ := by
    rw [hW]
    have := heap_alloc_new (w.alloc (.cells #[.int .u32 0, .int .i64 0, .int .i64 0, .int .i64 0] 40)) (.cells #[.int .u32 0, .int .i64 (-1), .int .i64 0, .int .i64 0] 40)
    rw [show (w.alloc (.cells #[.int .u32 0, .int .i64 0, .int .i64 0, .int .i64 0] 40)).heap.size = w.heap.size + 1 by simp] at this
    exact this
  have hWs : W.heap.size = w.heap.size + 2 := by rw [hW]; simp
  have hrW := hrd.below hbW
  have HRD := Lib.hid hrd
  clear hwf hrd
  cases hq : rightB l
  · have hok : findOk l a = false := by unfold findOk; rw [hq]; rfl
    have hv : findV l a = zero := by unfold findV; rw [hok]; rfl
    rw [hok, hv]
    go_enter Try.func21, Try.ntmps21
    go_wp2_with fail
    rw [← hW]
    clear hW hok hv
    go_loopw [7] (fun i wr => i = .int .i64 0 ∧ Below W.heap.size W wr) (fun i _ => 0)
    case atStart => exact ⟨rfl, Below.refl _ _⟩
    case round =>
      obtain ⟨rfl, hbel⟩ := hrel
      by_cases hn : 0 < n
      · have hn1 : (0 : Int) < (n : Int) := by omega
        have hright := rtright_spec A n c l wr (hrW.below hbel) HWF.out hn2
        rw [hq] at hright
        go_wp2_with fail
        refine hright.mono ?_
        rintro e w2 ⟨rfl, hb2⟩
        have hbelT := bel_then hbel hb2
        obtain ⟨z0, z1, z2, z3⟩ := (Z4.below hbelT).cells
        obtain ⟨y0, y1, y2, y3⟩ := (Z4.below hbelT).unfrozen
        obtain ⟨x0, x1, x2, x3⟩ := (Z6.below hbelT).cells
        clear hright hrW
        go_wp2
        refine bodyPost_ret (v := .tuple #[.agg #[.int .u32 0, .int .i64 0, .int .i64 0, .int .i64 0], .bool false]) (by simp [results, Try.results21, go_sem, z0, z1, z2, z3]) rfl ⟨rfl, ?_⟩
        exact ((((bel_then hbW hbelT).setCell (Nat.le_refl _) _).setCell (Nat.le_refl _) _).setCell (Nat.le_refl _) _).setCell (Nat.le_refl _) _
      · have hn1 : ¬ (0 : Int) < (n : Int) := by omega
        obtain ⟨z0, z1, z2, z3⟩ := (Z4.below hbel).cells
        obtain ⟨y0, y1, y2, y3⟩ := (Z4.below hbel).unfrozen
        obtain ⟨x0, x1, x2, x3⟩ := (Z6.below hbel).cells
        clear hrW
        go_wp2
        refine bodyPost_ret (v := .tuple #[.agg #[.int .u32 0, .int .i64 0, .int .i64 0, .int .i64 0], .bool false]) (by simp [results, Try.results21, go_sem, z0, z1, z2, z3]) rfl ⟨rfl, ?_⟩
        exact ((((bel_then hbW hbel).setCell (Nat.le_refl _) _).setCell (Nat.le_refl _) _).setCell (Nat.le_refl _) _).setCell (Nat.le_refl _) _
  · have HQ := Lib.hid hq
    have HZ4 := Lib.hid Z4
    have hB1 : Below (w.heap.size + 1) W W := Below.refl _ _
    go_enter Try.func21, Try.ntmps21
    go_wp2_with fail
    rw [← hW]
    clear hW hq
    go_loopw [7] (fun i wr => ∃ k : Nat, k ≤ n ∧ i = .int .i64 k ∧ Below (w.heap.size + 1) W wr ∧ Hid (Blk4 wr (w.heap.size + 1) 40 (bestR l a k))) (fun i _ => n - (intOf i).toNat)
    case atStart => exact ⟨0, by omega, rfl, hB1, Z6⟩
    case round =>
      obtain ⟨k, hk, rfl, hbel, HB⟩ := hrel
      have hsz := hbel.size
      have hbelw : Below w.heap.size w wr := hbW.trans (hbel.mono (by omega))
      have Z4r : Blk4 wr w.heap.size 40 ⟨0, 0, 0, 0⟩ := (hbel.block _ (by omega)).trans HZ4.out
      have hrr : RdRoutes wr A n l := HRD.out.below hbelw
      by_cases hlt : k < n
      · have hltz : (k : Int) < (n : Int) := by omega
        have hright := rtright_spec A n c l wr hrr HWF.out hn2
        rw [HQ.out] at hright
        go_wp2_with fail
        refine hright.mono ?_
        rintro e w2 ⟨rfl, hb2⟩
        have hbel2 : Below (w.heap.size + 1) W w2 := hbel.trans (hb2.mono (by omega))
        obtain ⟨b, off, rfl, l2⟩ := (hrr.below hb2).2.2 k hlt
        have hrwf : (l[k]!).wf := HWF.out _ (by rw [getElem!_pos l k (by omega)]; exact List.getElem_mem _)
        have hnx := bestR_next HQ.out a (k := k) (by omega)
        have HB2 := HB.out.below hb2
        generalize l[k]! = r at l2 hrwf hnx
        generalize bestR l a k = rb at HB2 hnx
        obtain ⟨e0, e1, e2, e3⟩ := l2.four
        have hlb := l2.1
        obtain ⟨x0, x1, x2, x3⟩ := HB2.cells
        obtain ⟨f0, f1, f2, f3⟩ := HB2.unfrozen
        have HBB := Lib.hid HB2
        clear hright l2 HB2 hrW hrr
        by_cases c1 : rb.bits < r.bits
        · have hin : ∀ q, Calls Try.prog 27 #[.int .u32 a, .int .u32 r.net, .int .i64 r.bits] (w2.drewN q) (fun e w'' => e = .returned (.bool (Net.inB a r.net r.bits)) ∧ ∃ k, w'' = w2.drewN k) := fun q =>
            (rin_spec a r.net r.bits (w2.drewN q) a0 a1 hrwf.1 hrwf.2).mono fun e w1 ⟨h, h2⟩ => ⟨h, q, h2.symm⟩
          cases hib : Net.inB a r.net r.bits
          · rw [hib] at hin hnx
            rw [if_neg (by simp)] at hnx
            have HI := Lib.hid hin
            have HN := Lib.hid hnx
            clear hin hnx hib
            go_wp2_with fail
            go_quiet ((with_reducible exact HI.out _))
            go_wp2
            go_roundw
            case rel => exact ⟨k + 1, by omega, by go_num, below_drewN hbel2 _, Lib.hid (by rw [HN.out]; exact HBB.out)⟩
            case measure => simp [intOf]; omega
          · rw [hib] at hin hnx
            rw [if_pos ⟨rfl, c1⟩] at hnx
            have HI := Lib.hid hin
            have HN := Lib.hid hnx
            clear hin hnx hib
            go_wp2_with fail
            go_quiet ((with_reducible exact HI.out _))
            go_wp2
            go_roundw
            case rel =>
              refine ⟨k + 1, by omega, by go_num, ?_, Lib.hid (by rw [HN.out]; exact HBB.out.put r)⟩
              first
              | exact below_drewN ((((hbel2.setCell (Nat.le_refl _) _).setCell (Nat.le_refl _) _).setCell (Nat.le_refl _) _).setCell (Nat.le_refl _) _) _
              | exact ((((below_drewN hbel2 _).setCell (Nat.le_refl _) _).setCell (Nat.le_refl _) _).setCell (Nat.le_refl _) _).setCell (Nat.le_refl _) _
            case measure => simp [intOf]; omega
        · have c1' : decide (rb.bits < r.bits) = false := by simp; omega
          rw [if_neg (fun h => c1 h.2)] at hnx
          have HN := Lib.hid hnx
          clear hnx c1
          go_wp2_with fail
          go_quiet (fail)
          go_wp2
          go_roundw
          case rel => exact ⟨k + 1, by omega, by go_num, below_drewN hbel2 _, Lib.hid (by rw [HN.out]; exact HBB.out)⟩
          case measure => simp [intOf]; omega
      · have hltz : ¬ (k : Int) < (n : Int) := by omega
        have : k = n := by omega
        subst this
        have hok : findOk l a = decide (0 ≤ best l a k) := by unfold findOk; rw [HQ.out, Bool.true_and, hl]
        have hfv : findV l a = if findOk l a = true then bestR l a k else zero := by
          unfold findV bestR
          rw [hl]
          by_cases h : findOk l a = true
          · rw [if_pos h, if_pos h]
            rw [h] at hok
            have : 0 ≤ best l a k := by simpa using hok.symm
            rw [if_neg (by omega)]
          · rw [if_neg h, if_neg h]
        have hbb : (bestR l a k).bits < 0 ↔ best l a k < 0 := by
          unfold bestR
          have hlt := best_lt l a k
          by_cases h : best l a k < 0
          · rw [if_pos h]; simp [h]
          · rw [if_neg h]
            have := (may_iff.1 (right_step HQ.out (i := (best l a k).toNat) (by omega)).1).1.1
            omega
        have HBB := HB.out
        generalize bestR l a k = r at HBB hfv hbb
        obtain ⟨x0, x1, x2, x3⟩ := HBB.cells
        obtain ⟨z0, z1, z2, z3⟩ := Z4r.cells
        obtain ⟨y0, y1, y2, y3⟩ := Z4r.unfrozen
        by_cases h0 : r.bits < 0
        · have hok2 : findOk l a = false := by rw [hok]; simp; omega
          rw [hok2] at hfv
          have HF := Lib.hid (And.intro hok2 hfv)
          clear hok hfv hbb hok2 HBB Z4r
          go_wp2
          refine bodyPost_ret (v := .tuple #[.agg #[.int .u32 0, .int .i64 0, .int .i64 0, .int .i64 0], .bool false]) (by simp [results, Try.results21, go_sem, z0, z1, z2, z3]) rfl ⟨by rw [HF.out.1, HF.out.2]; rfl, ?_⟩
          exact (((hbelw.setCell (Nat.le_refl _) _).setCell (Nat.le_refl _) _).setCell (Nat.le_refl _) _).setCell (Nat.le_refl _) _
        · have hok2 : findOk l a = true := by rw [hok]; simp; omega
          rw [hok2, if_pos rfl] at hfv
          have HF := Lib.hid (And.intro hok2 hfv)
          clear hok hfv hbb hok2 HBB Z4r
          go_wp2
          refine bodyPost_ret (v := .tuple #[.agg #[.int .u32 r.net, .int .i64 r.bits, .int .i64 r.zone, .int .i64 r.mtu], .bool true]) (by simp [results, Try.results21, go_sem, z0, z1, z2, z3]) rfl ⟨by rw [HF.out.1, HF.out.2]; rfl, ?_⟩
          exact (((hbelw.setCell (Nat.le_refl _) _).setCell (Nat.le_refl _) _).setCell (Nat.le_refl _) _).setCell (Nat.le_refl _) _
open Route in
theorem rtzone_spec (A : Option Addr) (n c : Nat) (l : List Route.R) (a : Int) (w : World) (hrd : RdRoutes w A n l) (hwf : ∀ r ∈ l, r.wf) (hn2 : n ≤ 4294967296) (a0 : 0 ≤ a) (a1 : a ≤ 4294967295) :
    Calls Try.prog 25 #[.slice A n c, .int .u32 a] w fun e w' => e = .returned (.int .i64 (zoneV l a)) ∧ Below w.heap.size w w' := by
  have hf := rtfind_spec A n c l a w hrd hwf hn2 a0 a1
  unfold zoneV
  generalize findV l a = r at hf ⊢
  obtain ⟨r1, r2, r3, r4⟩ := r
  have hcells : (R.mk r1 r2 r3 r4).cells.toArray = #[.int .u32 r1, .int .i64 r2, .int .i64 r3, .int .i64 r4] := rfl
  rw [hcells] at hf
  cases hq : findOk l a
  all_goals
    rw [hq] at hf
    clear hcells
    go_enter Try.func25, Try.ntmps25
    go_wp2_with (go_at_call 21; refine (hf).mono ?_; rintro e w1 ⟨rfl, hb1⟩)
    go_ret
    exact ⟨ret_int (by simp), hb1.trans ((Below.refl _ _).alloc hb1.size _)⟩
end Go.Proofs.Ytdocojhjknhjnaa
