/- The walk of RulesFirst. -/
import Derived.Test.YtdocojhjknhjnaaRulesAwake
import Derived.Deep.RegionHeld3
namespace Go.Proofs.Ytdocojhjknhjnaa
open Go.RowKit
set_option linter.unusedVariables false
set_option maxHeartbeats 400000 in
theorem rules_first (A : Option Addr) (n c : Nat) (l : List Rules.Rule) (fr to : Int) (t : Rules.Tup) (w : World) (hrd : RdRow w A n l) (hr : ∀ r ∈ l, r.wf) (ht : t.wf) (hnc : n ≤ c) (hc : c ≤ 9223372036854775807) :
    Calls Try.prog 3 #[.slice A n c, .int .i64 fr, .int .i64 to, .agg #[.int .i64 t.proto, .int .u32 t.src, .int .i64 t.sport, .int .u32 t.dst, .int .i64 t.dport]] w fun e w' => e = .returned (.bool true) ∧ Below w.heap.size w w' := by
  obtain ⟨W, hW⟩ : ∃ W, W = w.alloc (.cells #[.int .i64 t.proto, .int .u32 t.src, .int .i64 t.sport, .int .u32 t.dst, .int .i64 t.dport] 25) := ⟨_, rfl⟩
  have hbW : Below w.heap.size w W := by rw [hW]; exact (Below.refl _ _).alloc (Nat.le_refl _) _
  have Bt : RCells W w.heap.size t.cells := by rw [hW]; exact RCells.new w t.cells 25
  obtain ⟨m, hmin0, hm, hmc, _⟩ := min_named n 100
  have hmin : (if (100 : Int) < (n : Int) then (100 : Int) else (n : Int)) = (m : Int) := hmin0
  clear hmin0
  have hrm := (hrd.below hbW).take (m := m) (by omega)
  have hwf : ∀ r ∈ l.take m, r.wf := fun r h => hr r (List.mem_of_mem_take h)
  generalize l.take m = l' at hrm hwf
  have hl' := hrm.1
  go_enter Try.func3, Try.ntmps3
  go_wp2_with fail
  rw [← hW]
  refine (rules_awake _).mono ?_
  rintro e w1 ⟨rfl, hb1⟩
  have r1 := hrm.below hb1
  obtain ⟨b0, b1, b2, b3, b4⟩ := (Bt.below hb1).five
  have hask := ask_spec A m c l' fr to t w1 r1 hwf ht
  have hbT := bel_then hbW hb1
  have Bt1 := Bt.below hb1
  clear hrd hW hrm
  cases hq : Rules.rightB l'
  · rw [show Rules.askAct l' fr to t = 1 by simp [Rules.askAct, hq], show Rules.askAt l' fr to t = -1 by simp [Rules.askAt, hq]] at hask
    go_wp2_with fail
    refine hask.mono ?_
    rintro e w2 ⟨rfl, hb2⟩
    have hright := rulesRight_spec A m c l' w2 (r1.below hb2)
    rw [hq] at hright
    clear hask b0 b1 b2 b3 b4
    go_wp2_with fail
    refine hright.mono ?_
    rintro e w3 ⟨rfl, hb3⟩
    clear hright
    go_wp2
    go_ret
    exact ⟨rfl, bel_then (bel_then hbT hb2) hb3⟩
  · obtain ⟨at_, hat⟩ : ∃ x, x = idx (fun r => Rules.fitsB r fr to t) l' := ⟨_, rfl⟩
    obtain ⟨ac, hac⟩ : ∃ x, x = (if at_ < 0 then 1 else (l'[at_.toNat]!).act) := ⟨_, rfl⟩
    rw [show Rules.askAct l' fr to t = ac by rw [hac, hat]; simp [Rules.askAct, hq], show Rules.askAt l' fr to t = at_ by rw [hat]; simp [Rules.askAt, hq]] at hask
    have HAT := Lib.hid hat
    have HAC := Lib.hid hac
    clear hat hac
    go_wp2_with fail
    refine hask.mono ?_
    rintro e w2 ⟨rfl, hb2⟩
    have hright := rulesRight_spec A m c l' w2 (r1.below hb2)
    rw [hq] at hright
    clear hask b0 b1 b2 b3 b4
    go_wp2_with fail
    refine hright.mono ?_
    rintro e w3 ⟨rfl, hb3⟩
    have r3 := (r1.below hb2).below hb3
    have Bt3 := (Bt1.below hb2).below hb3
    have hbU := bel_then (bel_then hbT hb2) hb3
    clear hright r1 Bt1 hb1 hb2 hb3
    go_wp2
    go_loopw [11] (fun i wr => ∃ k : Nat, k ≤ m ∧ i = .int .i64 k ∧ Below w3.heap.size w3 wr ∧ Hid (∀ j, j < k → Rules.fitsB l'[j]! fr to t = false)) (fun i _ => m - (intOf i).toNat)
    case atStart => exact ⟨0, by omega, rfl, Below.refl _ _, Lib.hid fun j hj => absurd hj (Nat.not_lt_zero _)⟩
    case round =>
      obtain ⟨k, hk, rfl, hbel, HM⟩ := hrel
      by_cases hlt : k < m
      · have hltz : (k : Int) < (m : Int) := by omega
        obtain ⟨b, off, rfl, l2⟩ := (r3.below hbel).2.2 k hlt
        have hrwf : (l'[k]!).wf := hwf _ (by rw [getElem!_pos l' k (by omega)]; exact List.getElem_mem _)
        generalize hy : l'[k]! = r at l2 hrwf
        have HY := Lib.hid hy
        clear hy
        obtain ⟨e0, e1, e2, e3, e4, e5, e6, e7, e8, e9⟩ := l2.ten
        obtain ⟨b0, b1, b2, b3, b4⟩ := (Bt3.below hbel).five
        have hlb := l2.1
        have hlg := (Bt3.below hbel).1
        cases hf : Rules.fitsB r fr to t
        · have hfits : ∀ q, Calls Try.prog 14 #[.agg #[.int .i64 r.fr, .int .i64 r.to, .int .i64 r.proto, .int .u32 r.src, .int .u32 r.dst, .int .i64 r.sb, .int .i64 r.db, .int .i64 r.lo, .int .i64 r.hi, .int .i64 r.act], .int .i64 fr, .int .i64 to, .agg #[.int .i64 t.proto, .int .u32 t.src, .int .i64 t.sport, .int .u32 t.dst, .int .i64 t.dport]] (wr.drewN q) fun e w' => e = .returned (.bool false) ∧ Below (wr.drewN q).heap.size (wr.drewN q) w' := fun q => by
            have := fits_spec r fr to t (wr.drewN q) hrwf ht
            rw [hf] at this; exact this
          have HF := Lib.hid hf
          have KF : Hid (∀ w' : World, Below wr.heap.size wr w' → w'.cell? ⟨b, off + k * 10, none⟩ = some (.int .i64 r.fr) ∧ w'.cell? ⟨b, off + k * 10 + 1, none⟩ = some (.int .i64 r.to) ∧ w'.cell? ⟨b, off + k * 10 + 2, none⟩ = some (.int .i64 r.proto) ∧ w'.cell? ⟨b, off + k * 10 + 3, none⟩ = some (.int .u32 r.src) ∧ w'.cell? ⟨b, off + k * 10 + 4, none⟩ = some (.int .u32 r.dst) ∧ w'.cell? ⟨b, off + k * 10 + 5, none⟩ = some (.int .i64 r.sb) ∧ w'.cell? ⟨b, off + k * 10 + 6, none⟩ = some (.int .i64 r.db) ∧ w'.cell? ⟨b, off + k * 10 + 7, none⟩ = some (.int .i64 r.lo) ∧ w'.cell? ⟨b, off + k * 10 + 8, none⟩ = some (.int .i64 r.hi) ∧ w'.cell? ⟨b, off + k * 10 + 9, none⟩ = some (.int .i64 r.act) ∧ w'.cell? ⟨w.heap.size, 0, none⟩ = some (.int .i64 t.proto) ∧ w'.cell? ⟨w.heap.size, 1, none⟩ = some (.int .u32 t.src) ∧ w'.cell? ⟨w.heap.size, 2, none⟩ = some (.int .i64 t.sport) ∧ w'.cell? ⟨w.heap.size, 3, none⟩ = some (.int .u32 t.dst) ∧ w'.cell? ⟨w.heap.size, 4, none⟩ = some (.int .i64 t.dport)) := Lib.hid fun w' hb => by
            obtain ⟨f0, f1, f2, f3, f4, f5, f6, f7, f8, f9⟩ := RCells10.ten (w := w') (b := b) (off := off + k * 10) (r := r) ⟨Nat.lt_of_lt_of_le l2.1 hb.size, fun i v hi => (hb.cell (p := ⟨b, off + k * 10 + i, none⟩) l2.1).trans (l2.2 i v hi)⟩
            obtain ⟨g0, g1, g2, g3, g4⟩ := ((Bt3.below hbel).below hb).five
            exact ⟨f0, f1, f2, f3, f4, f5, f6, f7, f8, f9, g0, g1, g2, g3, g4⟩
          have KK : Hid (wr.cell? ⟨b, off + k * 10, none⟩ = some (.int .i64 r.fr) ∧ wr.cell? ⟨b, off + k * 10 + 1, none⟩ = some (.int .i64 r.to) ∧ wr.cell? ⟨b, off + k * 10 + 2, none⟩ = some (.int .i64 r.proto) ∧ wr.cell? ⟨b, off + k * 10 + 3, none⟩ = some (.int .u32 r.src) ∧ wr.cell? ⟨b, off + k * 10 + 4, none⟩ = some (.int .u32 r.dst) ∧ wr.cell? ⟨b, off + k * 10 + 5, none⟩ = some (.int .i64 r.sb) ∧ wr.cell? ⟨b, off + k * 10 + 6, none⟩ = some (.int .i64 r.db) ∧ wr.cell? ⟨b, off + k * 10 + 7, none⟩ = some (.int .i64 r.lo) ∧ wr.cell? ⟨b, off + k * 10 + 8, none⟩ = some (.int .i64 r.hi) ∧ wr.cell? ⟨b, off + k * 10 + 9, none⟩ = some (.int .i64 r.act) ∧ wr.cell? ⟨w.heap.size, 0, none⟩ = some (.int .i64 t.proto) ∧ wr.cell? ⟨w.heap.size, 1, none⟩ = some (.int .u32 t.src) ∧ wr.cell? ⟨w.heap.size, 2, none⟩ = some (.int .i64 t.sport) ∧ wr.cell? ⟨w.heap.size, 3, none⟩ = some (.int .u32 t.dst) ∧ wr.cell? ⟨w.heap.size, 4, none⟩ = some (.int .i64 t.dport)) := ⟨e0, e1, e2, e3, e4, e5, e6, e7, e8, e9, b0, b1, b2, b3, b4⟩
          clear hf l2
          go_wp2_with fail
          go_region_held3 (fun w' => w'.cell? ⟨b, off + k * 10, none⟩ = some (.int .i64 r.fr) ∧ w'.cell? ⟨b, off + k * 10 + 1, none⟩ = some (.int .i64 r.to) ∧ w'.cell? ⟨b, off + k * 10 + 2, none⟩ = some (.int .i64 r.proto) ∧ w'.cell? ⟨b, off + k * 10 + 3, none⟩ = some (.int .u32 r.src) ∧ w'.cell? ⟨b, off + k * 10 + 4, none⟩ = some (.int .u32 r.dst) ∧ w'.cell? ⟨b, off + k * 10 + 5, none⟩ = some (.int .i64 r.sb) ∧ w'.cell? ⟨b, off + k * 10 + 6, none⟩ = some (.int .i64 r.db) ∧ w'.cell? ⟨b, off + k * 10 + 7, none⟩ = some (.int .i64 r.lo) ∧ w'.cell? ⟨b, off + k * 10 + 8, none⟩ = some (.int .i64 r.hi) ∧ w'.cell? ⟨b, off + k * 10 + 9, none⟩ = some (.int .i64 r.act) ∧ w'.cell? ⟨w.heap.size, 0, none⟩ = some (.int .i64 t.proto) ∧ w'.cell? ⟨w.heap.size, 1, none⟩ = some (.int .u32 t.src) ∧ w'.cell? ⟨w.heap.size, 2, none⟩ = some (.int .i64 t.sport) ∧ w'.cell? ⟨w.heap.size, 3, none⟩ = some (.int .u32 t.dst) ∧ w'.cell? ⟨w.heap.size, 4, none⟩ = some (.int .i64 t.dport)) (first | exact KK.out | exact KF.out _ hbn) ((go_at_call 14; refine (hfits _).mono ?_; rintro e w5 ⟨rfl, hb5⟩; have hbn := bel_then (below_drewN (Below.refl wr.heap.size wr) _) hb5))
          go_wp2
          go_roundw
          case rel =>
            refine ⟨k + 1, by omega, by go_num, hbel.trans (hbn.mono hbel.size), Lib.hid fun j hj => ?_⟩
            by_cases e : j = k
            · subst e; rw [HY.out]; exact HF.out
            · exact HM.out j (by omega)
          case measure => simp [intOf]; omega
        · have hfits : ∀ q, Calls Try.prog 14 #[.agg #[.int .i64 r.fr, .int .i64 r.to, .int .i64 r.proto, .int .u32 r.src, .int .u32 r.dst, .int .i64 r.sb, .int .i64 r.db, .int .i64 r.lo, .int .i64 r.hi, .int .i64 r.act], .int .i64 fr, .int .i64 to, .agg #[.int .i64 t.proto, .int .u32 t.src, .int .i64 t.sport, .int .u32 t.dst, .int .i64 t.dport]] (wr.drewN q) fun e w' => e = .returned (.bool true) ∧ Below (wr.drewN q).heap.size (wr.drewN q) w' := fun q => by
            have := fits_spec r fr to t (wr.drewN q) hrwf ht
            rw [hf] at this; exact this
          have hhit := idx_hit (fun r => Rules.fitsB r fr to t) l' k (by omega) (by show Rules.fitsB l'[k]! fr to t = true; rw [HY.out]; exact hf) HM.out
          obtain rfl : at_ = (k : Int) := by rw [HAT.out, hhit]
          obtain rfl : ac = r.act := by
            rw [HAC.out, if_neg (by omega)]
            rw [show ((k : Int)).toNat = k by omega, HY.out]
          have KF : Hid (∀ w' : World, Below wr.heap.size wr w' → w'.cell? ⟨b, off + k * 10, none⟩ = some (.int .i64 r.fr) ∧ w'.cell? ⟨b, off + k * 10 + 1, none⟩ = some (.int .i64 r.to) ∧ w'.cell? ⟨b, off + k * 10 + 2, none⟩ = some (.int .i64 r.proto) ∧ w'.cell? ⟨b, off + k * 10 + 3, none⟩ = some (.int .u32 r.src) ∧ w'.cell? ⟨b, off + k * 10 + 4, none⟩ = some (.int .u32 r.dst) ∧ w'.cell? ⟨b, off + k * 10 + 5, none⟩ = some (.int .i64 r.sb) ∧ w'.cell? ⟨b, off + k * 10 + 6, none⟩ = some (.int .i64 r.db) ∧ w'.cell? ⟨b, off + k * 10 + 7, none⟩ = some (.int .i64 r.lo) ∧ w'.cell? ⟨b, off + k * 10 + 8, none⟩ = some (.int .i64 r.hi) ∧ w'.cell? ⟨b, off + k * 10 + 9, none⟩ = some (.int .i64 r.act) ∧ w'.cell? ⟨w.heap.size, 0, none⟩ = some (.int .i64 t.proto) ∧ w'.cell? ⟨w.heap.size, 1, none⟩ = some (.int .u32 t.src) ∧ w'.cell? ⟨w.heap.size, 2, none⟩ = some (.int .i64 t.sport) ∧ w'.cell? ⟨w.heap.size, 3, none⟩ = some (.int .u32 t.dst) ∧ w'.cell? ⟨w.heap.size, 4, none⟩ = some (.int .i64 t.dport)) := Lib.hid fun w' hb => by
            obtain ⟨f0, f1, f2, f3, f4, f5, f6, f7, f8, f9⟩ := RCells10.ten (w := w') (b := b) (off := off + k * 10) (r := r) ⟨Nat.lt_of_lt_of_le l2.1 hb.size, fun i v hi => (hb.cell (p := ⟨b, off + k * 10 + i, none⟩) l2.1).trans (l2.2 i v hi)⟩
            obtain ⟨g0, g1, g2, g3, g4⟩ := ((Bt3.below hbel).below hb).five
            exact ⟨f0, f1, f2, f3, f4, f5, f6, f7, f8, f9, g0, g1, g2, g3, g4⟩
          have KK : Hid (wr.cell? ⟨b, off + k * 10, none⟩ = some (.int .i64 r.fr) ∧ wr.cell? ⟨b, off + k * 10 + 1, none⟩ = some (.int .i64 r.to) ∧ wr.cell? ⟨b, off + k * 10 + 2, none⟩ = some (.int .i64 r.proto) ∧ wr.cell? ⟨b, off + k * 10 + 3, none⟩ = some (.int .u32 r.src) ∧ wr.cell? ⟨b, off + k * 10 + 4, none⟩ = some (.int .u32 r.dst) ∧ wr.cell? ⟨b, off + k * 10 + 5, none⟩ = some (.int .i64 r.sb) ∧ wr.cell? ⟨b, off + k * 10 + 6, none⟩ = some (.int .i64 r.db) ∧ wr.cell? ⟨b, off + k * 10 + 7, none⟩ = some (.int .i64 r.lo) ∧ wr.cell? ⟨b, off + k * 10 + 8, none⟩ = some (.int .i64 r.hi) ∧ wr.cell? ⟨b, off + k * 10 + 9, none⟩ = some (.int .i64 r.act) ∧ wr.cell? ⟨w.heap.size, 0, none⟩ = some (.int .i64 t.proto) ∧ wr.cell? ⟨w.heap.size, 1, none⟩ = some (.int .u32 t.src) ∧ wr.cell? ⟨w.heap.size, 2, none⟩ = some (.int .i64 t.sport) ∧ wr.cell? ⟨w.heap.size, 3, none⟩ = some (.int .u32 t.dst) ∧ wr.cell? ⟨w.heap.size, 4, none⟩ = some (.int .i64 t.dport)) := ⟨e0, e1, e2, e3, e4, e5, e6, e7, e8, e9, b0, b1, b2, b3, b4⟩
          clear hf l2 hhit
          go_wp2_with fail
          go_region_held3 (fun w' => w'.cell? ⟨b, off + k * 10, none⟩ = some (.int .i64 r.fr) ∧ w'.cell? ⟨b, off + k * 10 + 1, none⟩ = some (.int .i64 r.to) ∧ w'.cell? ⟨b, off + k * 10 + 2, none⟩ = some (.int .i64 r.proto) ∧ w'.cell? ⟨b, off + k * 10 + 3, none⟩ = some (.int .u32 r.src) ∧ w'.cell? ⟨b, off + k * 10 + 4, none⟩ = some (.int .u32 r.dst) ∧ w'.cell? ⟨b, off + k * 10 + 5, none⟩ = some (.int .i64 r.sb) ∧ w'.cell? ⟨b, off + k * 10 + 6, none⟩ = some (.int .i64 r.db) ∧ w'.cell? ⟨b, off + k * 10 + 7, none⟩ = some (.int .i64 r.lo) ∧ w'.cell? ⟨b, off + k * 10 + 8, none⟩ = some (.int .i64 r.hi) ∧ w'.cell? ⟨b, off + k * 10 + 9, none⟩ = some (.int .i64 r.act) ∧ w'.cell? ⟨w.heap.size, 0, none⟩ = some (.int .i64 t.proto) ∧ w'.cell? ⟨w.heap.size, 1, none⟩ = some (.int .u32 t.src) ∧ w'.cell? ⟨w.heap.size, 2, none⟩ = some (.int .i64 t.sport) ∧ w'.cell? ⟨w.heap.size, 3, none⟩ = some (.int .u32 t.dst) ∧ w'.cell? ⟨w.heap.size, 4, none⟩ = some (.int .i64 t.dport)) (first | exact KK.out | exact KF.out _ hbn) ((go_at_call 14; refine (hfits _).mono ?_; rintro e w5 ⟨rfl, hb5⟩; have hbn := bel_then (below_drewN (Below.refl wr.heap.size wr) _) hb5))
          have e9' := (hbn.cell (p := ⟨b, off + k * 10 + 9, none⟩) hlb).trans e9
          go_wp2
          go_ret
          exact ⟨ret_bool (by simp), bel_then (bel_then hbU hbel) hbn⟩
      · have hltz : ¬ (k : Int) < (m : Int) := by omega
        have : k = m := by omega
        subst this
        have hmiss := idx_miss (fun r => Rules.fitsB r fr to t) l' (by rw [hl']; exact HM.out)
        obtain rfl : at_ = -1 := by rw [HAT.out, hmiss]
        obtain rfl : ac = 1 := by rw [HAC.out]; rfl
        go_wp2
        go_ret
        exact ⟨rfl, bel_then hbU hbel⟩
end Go.Proofs.Ytdocojhjknhjnaa
