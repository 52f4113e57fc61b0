/- The walk of the reference's Ask. -/
import Derived.Test.YtdocojhjknhjnaaRulesRef2
namespace Go.Proofs.Ytdocojhjknhjnaa
open Go.RowKit
set_option linter.unusedVariables false
set_option maxHeartbeats 4000000 in
theorem rask_spec (A : Option Addr) (n c : Nat) (l : List Rules.Rule) (fr to : Int) (t : Rules.Tup) (w : World) (hrd : RdRow w A n l) (hr : ∀ r ∈ l, r.wf) (ht : t.wf) :
    Calls Try.prog 15 #[.slice A n c, .int .i64 fr, .int .i64 to, .agg #[.int .i64 t.proto, .int .u32 t.src, .int .i64 t.sport, .int .u32 t.dst, .int .i64 t.dport]] w fun e w' => e = .returned (.tuple #[.int .i64 (Rules.askAct l fr to t), .int .i64 (Rules.askAt l fr to t)]) ∧ Below w.heap.size w w' := by
  obtain ⟨W, hW⟩ : ∃ W, W = w.alloc (.cells #[.int .i64 t.proto, .int .u32 t.src, .int .i64 t.sport, .int .u32 t.dst, .int .i64 t.dport] 25) := ⟨_, rfl⟩
  have hbW : Below w.heap.size w W := by rw [hW]; exact (Below.refl _ _).alloc (Nat.le_refl _) _
  have Bt : RCells W w.heap.size t.cells := by rw [hW]; exact RCells.new w t.cells 25
  have hrW := hrd.below hbW
  have hl := hrd.1
  have hbig := hrd.2.1
  clear hrd
  cases hq : Rules.rightB l
  · rw [show Rules.askAct l fr to t = 1 by simp [Rules.askAct, hq], show Rules.askAt l fr to t = -1 by simp [Rules.askAt, hq]]
    go_enter Try.func15, Try.ntmps15
    go_wp2_with fail
    rw [← hW]
    clear hW Bt
    go_loopw [10] (fun i wr => i = .int .i64 0 ∧ Below W.heap.size W wr) (fun i _ => 0)
    case atStart => exact ⟨rfl, Below.refl _ _⟩
    case round =>
      obtain ⟨rfl, hbel⟩ := hrel
      by_cases hn : 0 < n
      · have hn1 : (0 : Int) < (n : Int) := by omega
        have hright := rright_spec A n c l wr (hrW.below hbel)
        rw [hq] at hright
        go_wp2_with (go_at_call 16; refine (hright).mono ?_; rintro e w2 ⟨rfl, hb2⟩)
        go_ret2
        exact ⟨rfl, bel_then (bel_then hbW hbel) hb2⟩
      · have hn1 : ¬ (0 : Int) < (n : Int) := by omega
        go_wp2
        go_ret2
        exact ⟨rfl, bel_then hbW hbel⟩
  · obtain ⟨at_, hat⟩ : ∃ x, x = idx (fun r => Rules.fitsB r fr to t) l := ⟨_, rfl⟩
    obtain ⟨ac, hac⟩ : ∃ x, x = (if at_ < 0 then 1 else (l[at_.toNat]!).act) := ⟨_, rfl⟩
    rw [show Rules.askAct l fr to t = ac by rw [hac, hat]; simp [Rules.askAct, hq], show Rules.askAt l fr to t = at_ by rw [hat]; simp [Rules.askAt, hq]]
    have HAT := Lib.hid hat
    have HAC := Lib.hid hac
    have HQ := Lib.hid hq
    clear hat hac hq
    go_enter Try.func15, Try.ntmps15
    go_wp2_with fail
    rw [← hW]
    clear hW
    go_loopw [10] (fun i wr => ∃ k : Nat, k ≤ n ∧ i = .int .i64 k ∧ Below W.heap.size W wr ∧ Hid (∀ j, j < k → Rules.fitsB l[j]! fr to t = false)) (fun i _ => n - (intOf i).toNat)
    case atStart => exact ⟨0, by omega, rfl, Below.refl _ _, Lib.hid fun j hj => absurd hj (Nat.not_lt_zero _)⟩
    case round =>
      obtain ⟨k, hk, rfl, hbel, HM⟩ := hrel
      by_cases hlt : k < n
      · have hltz : (k : Int) < (n : Int) := by omega
        have hright := rright_spec A n c l wr (hrW.below hbel)
        rw [HQ.out] at hright
        go_wp2_with fail
        refine hright.mono ?_
        rintro e w2 ⟨rfl, hb2⟩
        have hbel2 := bel_then hbel hb2
        clear hright
        obtain ⟨b, off, rfl, l2⟩ := (hrW.below hbel2).2.2 k hlt
        have hrwf : (l[k]!).wf := hr _ (by rw [getElem!_pos l k (by omega)]; exact List.getElem_mem _)
        generalize hy : l[k]! = r at l2 hrwf
        have HY := Lib.hid hy
        clear hy
        obtain ⟨e0, e1, e2, e3, e4, e5, e6, e7, e8, e9⟩ := l2.ten
        obtain ⟨b0, b1, b2, b3, b4⟩ := (Bt.below hbel2).five
        have hlb := l2.1
        have KF : Hid (∀ w' : World, Below w2.heap.size w2 w' → w'.cell? ⟨b, off + k * 10, none⟩ = some (.int .i64 r.fr) ∧ w'.cell? ⟨b, off + k * 10 + 1, none⟩ = some (.int .i64 r.to) ∧ w'.cell? ⟨b, off + k * 10 + 2, none⟩ = some (.int .i64 r.proto) ∧ w'.cell? ⟨b, off + k * 10 + 3, none⟩ = some (.int .u32 r.src) ∧ w'.cell? ⟨b, off + k * 10 + 4, none⟩ = some (.int .u32 r.dst) ∧ w'.cell? ⟨b, off + k * 10 + 5, none⟩ = some (.int .i64 r.sb) ∧ w'.cell? ⟨b, off + k * 10 + 6, none⟩ = some (.int .i64 r.db) ∧ w'.cell? ⟨b, off + k * 10 + 7, none⟩ = some (.int .i64 r.lo) ∧ w'.cell? ⟨b, off + k * 10 + 8, none⟩ = some (.int .i64 r.hi) ∧ w'.cell? ⟨b, off + k * 10 + 9, none⟩ = some (.int .i64 r.act) ∧ w'.cell? ⟨w.heap.size, 0, none⟩ = some (.int .i64 t.proto) ∧ w'.cell? ⟨w.heap.size, 1, none⟩ = some (.int .u32 t.src) ∧ w'.cell? ⟨w.heap.size, 2, none⟩ = some (.int .i64 t.sport) ∧ w'.cell? ⟨w.heap.size, 3, none⟩ = some (.int .u32 t.dst) ∧ w'.cell? ⟨w.heap.size, 4, none⟩ = some (.int .i64 t.dport)) := Lib.hid fun w' hb => by
          obtain ⟨f0, f1, f2, f3, f4, f5, f6, f7, f8, f9⟩ := RCells10.ten (w := w') (b := b) (off := off + k * 10) (r := r) ⟨Nat.lt_of_lt_of_le l2.1 hb.size, fun i v hi => (hb.cell (p := ⟨b, off + k * 10 + i, none⟩) l2.1).trans (l2.2 i v hi)⟩
          obtain ⟨g0, g1, g2, g3, g4⟩ := ((Bt.below hbel2).below hb).five
          exact ⟨f0, f1, f2, f3, f4, f5, f6, f7, f8, f9, g0, g1, g2, g3, g4⟩
        have KK := Lib.hid (KF.out w2 (Below.refl _ _))
        cases hf : Rules.fitsB r fr to t
        · have hfits : ∀ q, Calls Try.prog 17 #[.agg #[.int .i64 r.fr, .int .i64 r.to, .int .i64 r.proto, .int .u32 r.src, .int .u32 r.dst, .int .i64 r.sb, .int .i64 r.db, .int .i64 r.lo, .int .i64 r.hi, .int .i64 r.act], .int .i64 fr, .int .i64 to, .agg #[.int .i64 t.proto, .int .u32 t.src, .int .i64 t.sport, .int .u32 t.dst, .int .i64 t.dport]] (w2.drewN q) fun e w' => e = .returned (.bool false) ∧ Below (w2.drewN q).heap.size (w2.drewN q) w' := fun q => by
            have := rfits_spec r fr to t (w2.drewN q) hrwf ht
            rw [hf] at this; exact this
          have HF := Lib.hid hf
          clear hf l2
          go_wp2_with fail
          go_region_held3 (fun w' => w'.cell? ⟨b, off + k * 10, none⟩ = some (.int .i64 r.fr) ∧ w'.cell? ⟨b, off + k * 10 + 1, none⟩ = some (.int .i64 r.to) ∧ w'.cell? ⟨b, off + k * 10 + 2, none⟩ = some (.int .i64 r.proto) ∧ w'.cell? ⟨b, off + k * 10 + 3, none⟩ = some (.int .u32 r.src) ∧ w'.cell? ⟨b, off + k * 10 + 4, none⟩ = some (.int .u32 r.dst) ∧ w'.cell? ⟨b, off + k * 10 + 5, none⟩ = some (.int .i64 r.sb) ∧ w'.cell? ⟨b, off + k * 10 + 6, none⟩ = some (.int .i64 r.db) ∧ w'.cell? ⟨b, off + k * 10 + 7, none⟩ = some (.int .i64 r.lo) ∧ w'.cell? ⟨b, off + k * 10 + 8, none⟩ = some (.int .i64 r.hi) ∧ w'.cell? ⟨b, off + k * 10 + 9, none⟩ = some (.int .i64 r.act) ∧ w'.cell? ⟨w.heap.size, 0, none⟩ = some (.int .i64 t.proto) ∧ w'.cell? ⟨w.heap.size, 1, none⟩ = some (.int .u32 t.src) ∧ w'.cell? ⟨w.heap.size, 2, none⟩ = some (.int .i64 t.sport) ∧ w'.cell? ⟨w.heap.size, 3, none⟩ = some (.int .u32 t.dst) ∧ w'.cell? ⟨w.heap.size, 4, none⟩ = some (.int .i64 t.dport)) (first | exact KK.out | exact KF.out _ hbn) ((go_at_call 17; refine (hfits _).mono ?_; rintro e w5 ⟨rfl, hb5⟩; have hbn := bel_then (below_drewN (Below.refl w2.heap.size w2) _) hb5))
          go_wp2
          go_roundw
          case rel =>
            refine ⟨k + 1, by omega, by go_num, hbel2.trans (hbn.mono hbel2.size), Lib.hid fun j hj => ?_⟩
            by_cases e : j = k
            · subst e; rw [HY.out]; exact HF.out
            · exact HM.out j (by omega)
          case measure => simp [intOf]; omega
        · have hfits : ∀ q, Calls Try.prog 17 #[.agg #[.int .i64 r.fr, .int .i64 r.to, .int .i64 r.proto, .int .u32 r.src, .int .u32 r.dst, .int .i64 r.sb, .int .i64 r.db, .int .i64 r.lo, .int .i64 r.hi, .int .i64 r.act], .int .i64 fr, .int .i64 to, .agg #[.int .i64 t.proto, .int .u32 t.src, .int .i64 t.sport, .int .u32 t.dst, .int .i64 t.dport]] (w2.drewN q) fun e w' => e = .returned (.bool true) ∧ Below (w2.drewN q).heap.size (w2.drewN q) w' := fun q => by
            have := rfits_spec r fr to t (w2.drewN q) hrwf ht
            rw [hf] at this; exact this
          have hhit := idx_hit (fun r => Rules.fitsB r fr to t) l k (by omega) (by show Rules.fitsB l[k]! fr to t = true; rw [HY.out]; exact hf) HM.out
          obtain rfl : at_ = (k : Int) := by rw [HAT.out, hhit]
          obtain rfl : ac = r.act := by
            rw [HAC.out, if_neg (by omega)]
            rw [show ((k : Int)).toNat = k by omega, HY.out]
          clear hf l2 hhit
          go_wp2_with fail
          go_region_held3 (fun w' => w'.cell? ⟨b, off + k * 10, none⟩ = some (.int .i64 r.fr) ∧ w'.cell? ⟨b, off + k * 10 + 1, none⟩ = some (.int .i64 r.to) ∧ w'.cell? ⟨b, off + k * 10 + 2, none⟩ = some (.int .i64 r.proto) ∧ w'.cell? ⟨b, off + k * 10 + 3, none⟩ = some (.int .u32 r.src) ∧ w'.cell? ⟨b, off + k * 10 + 4, none⟩ = some (.int .u32 r.dst) ∧ w'.cell? ⟨b, off + k * 10 + 5, none⟩ = some (.int .i64 r.sb) ∧ w'.cell? ⟨b, off + k * 10 + 6, none⟩ = some (.int .i64 r.db) ∧ w'.cell? ⟨b, off + k * 10 + 7, none⟩ = some (.int .i64 r.lo) ∧ w'.cell? ⟨b, off + k * 10 + 8, none⟩ = some (.int .i64 r.hi) ∧ w'.cell? ⟨b, off + k * 10 + 9, none⟩ = some (.int .i64 r.act) ∧ w'.cell? ⟨w.heap.size, 0, none⟩ = some (.int .i64 t.proto) ∧ w'.cell? ⟨w.heap.size, 1, none⟩ = some (.int .u32 t.src) ∧ w'.cell? ⟨w.heap.size, 2, none⟩ = some (.int .i64 t.sport) ∧ w'.cell? ⟨w.heap.size, 3, none⟩ = some (.int .u32 t.dst) ∧ w'.cell? ⟨w.heap.size, 4, none⟩ = some (.int .i64 t.dport)) (first | exact KK.out | exact KF.out _ hbn) ((go_at_call 17; refine (hfits _).mono ?_; rintro e w5 ⟨rfl, hb5⟩; have hbn := bel_then (below_drewN (Below.refl w2.heap.size w2) _) hb5))
          have e9' := (hbn.cell (p := ⟨b, off + k * 10 + 9, none⟩) hlb).trans e9
          go_wp2
          go_ret2
          exact ⟨rfl, bel_then (bel_then hbW hbel2) hbn⟩
      · have hltz : ¬ (k : Int) < (n : Int) := by omega
        have : k = n := by omega
        subst this
        have hmiss := idx_miss (fun r => Rules.fitsB r fr to t) l (by rw [hl]; exact HM.out)
        obtain rfl : at_ = -1 := by rw [HAT.out, hmiss]
        obtain rfl : ac = 1 := by rw [HAC.out]; rfl
        go_wp2
        go_ret2
        exact ⟨rfl, bel_then hbW hbel⟩
end Go.Proofs.Ytdocojhjknhjnaa
