/- The walk of rules.Fits and of the two closures. -/
import Derived.Test.YtdocojhjknhjnaaRulesWalks
import Derived.Deep.RegionHeld3
import Derived.Deep.QuietTactic
namespace Go.Proofs.Ytdocojhjknhjnaa
open Go.RowKit
set_option linter.unusedVariables false
theorem box_cell (w : World) (cs : Array Value) (t : TypeId) (i : Nat) : (w.alloc (.cells cs t)).cell? ⟨w.heap.size, i, none⟩ = cs[i]? := cell_of_row _ _ i cs t (0, 0) (heap_alloc_new w _)
def RCells (w : World) (g : Nat) (cs : List Value) : Prop := g < w.heap.size ∧ ∀ (i : Nat) (v : Value), cs[i]? = some v → w.cell? ⟨g, i, none⟩ = some v
theorem RCells.below {w w' : World} {g : Nat} {cs : List Value} (h : RCells w g cs) (hb : Below w.heap.size w w') : RCells w' g cs :=
  ⟨Nat.lt_of_lt_of_le h.1 hb.size, fun i v hv => (hb.cell (p := ⟨g, i, none⟩) h.1).trans (h.2 i v hv)⟩
theorem RCells.new (w : World) (cs : List Value) (t : TypeId) : RCells (w.alloc (.cells cs.toArray t)) w.heap.size cs :=
  ⟨by simp, fun i v hv => by rw [box_cell]; simpa using hv⟩
theorem RCells.ten {w : World} {g : Nat} {a b c d e f h i j k : Value} (H : RCells w g [a, b, c, d, e, f, h, i, j, k]) : w.cell? ⟨g, 0, none⟩ = some a ∧ w.cell? ⟨g, 1, none⟩ = some b ∧ w.cell? ⟨g, 2, none⟩ = some c ∧ w.cell? ⟨g, 3, none⟩ = some d ∧ w.cell? ⟨g, 4, none⟩ = some e ∧
    w.cell? ⟨g, 5, none⟩ = some f ∧ w.cell? ⟨g, 6, none⟩ = some h ∧ w.cell? ⟨g, 7, none⟩ = some i ∧ w.cell? ⟨g, 8, none⟩ = some j ∧ w.cell? ⟨g, 9, none⟩ = some k :=
  ⟨H.2 0 _ rfl, H.2 1 _ rfl, H.2 2 _ rfl, H.2 3 _ rfl, H.2 4 _ rfl, H.2 5 _ rfl, H.2 6 _ rfl, H.2 7 _ rfl, H.2 8 _ rfl, H.2 9 _ rfl⟩
theorem RCells.five {w : World} {g : Nat} {a b c d e : Value} (H : RCells w g [a, b, c, d, e]) : w.cell? ⟨g, 0, none⟩ = some a ∧ w.cell? ⟨g, 1, none⟩ = some b ∧ w.cell? ⟨g, 2, none⟩ = some c ∧ w.cell? ⟨g, 3, none⟩ = some d ∧ w.cell? ⟨g, 4, none⟩ = some e :=
  ⟨H.2 0 _ rfl, H.2 1 _ rfl, H.2 2 _ rfl, H.2 3 _ rfl, H.2 4 _ rfl⟩
set_option maxHeartbeats 2000000 in
theorem fits_spec (r : Rules.Rule) (fr to : Int) (t : Rules.Tup) (w : World) (hr : r.wf) (ht : t.wf) :
    Calls Try.prog 14 #[.agg #[.int .i64 r.fr, .int .i64 r.to, .int .i64 r.proto, .int .u32 r.src, .int .u32 r.dst, .int .i64 r.sb, .int .i64 r.db, .int .i64 r.lo, .int .i64 r.hi, .int .i64 r.act], .int .i64 fr, .int .i64 to, .agg #[.int .i64 t.proto, .int .u32 t.src, .int .i64 t.sport, .int .u32 t.dst, .int .i64 t.dport]] w fun e w' => e = .returned (.bool (Rules.fitsB r fr to t)) ∧ Below w.heap.size w w' := by
  obtain ⟨⟨s0, s1⟩, d0, d1⟩ := hr
  obtain ⟨⟨u0, u1⟩, v0, v1⟩ := ht
  obtain ⟨W, hW⟩ : ∃ W, W = (w.alloc (.cells #[.int .i64 r.fr, .int .i64 r.to, .int .i64 r.proto, .int .u32 r.src, .int .u32 r.dst, .int .i64 r.sb, .int .i64 r.db, .int .i64 r.lo, .int .i64 r.hi, .int .i64 r.act] 32)).alloc (.cells #[.int .i64 t.proto, .int .u32 t.src, .int .i64 t.sport, .int .u32 t.dst, .int .i64 t.dport] 25) := ⟨_, rfl⟩
  have hbW : Below w.heap.size w W := by rw [hW]; exact ((Below.refl _ _).alloc (Nat.le_refl _) _).alloc (by simp) _
  have Br : RCells W w.heap.size r.cells := by rw [hW]; exact (RCells.new w r.cells 32).below ((Below.refl _ _).alloc (Nat.le_refl _) _)
  have Bt : RCells W (w.heap.size + 1) t.cells := by
    rw [hW]
    have := RCells.new (w.alloc (.cells #[.int .i64 r.fr, .int .i64 r.to, .int .i64 r.proto, .int .u32 r.src, .int .u32 r.dst, .int .i64 r.sb, .int .i64 r.db, .int .i64 r.lo, .int .i64 r.hi, .int .i64 r.act] 32)) t.cells 25
    have e : (w.alloc (.cells #[.int .i64 r.fr, .int .i64 r.to, .int .i64 r.proto, .int .u32 r.src, .int .u32 r.dst, .int .i64 r.sb, .int .i64 r.db, .int .i64 r.lo, .int .i64 r.hi, .int .i64 r.act] 32)).heap.size = w.heap.size + 1 := by simp
    rw [e] at this
    exact this
  obtain ⟨a0, a1, a2, a3, a4, a5, a6, a7, a8, a9⟩ := RCells.ten Br
  obtain ⟨b0, b1, b2, b3, b4⟩ := RCells.five Bt
  have hz := zones_spec r fr to W
  unfold Rules.fitsB
  cases hzb : Rules.zonesB r fr to
  · rw [hzb] at hz
    go_enter Try.func14, Try.ntmps14
    go_wp2_with fail
    rw [← hW]
    refine hz.mono ?_
    rintro e w1 ⟨rfl, hb1⟩
    go_wp2
    go_ret
    exact ⟨ret_bool (by simp), bel_then hbW hb1⟩
  · rw [hzb] at hz
    cases hp : (r.proto != 0 && r.proto != t.proto)
    · go_enter Try.func14, Try.ntmps14
      go_wp2_with fail
      rw [← hW]
      refine hz.mono ?_
      rintro e w1 ⟨rfl, hb1⟩
      obtain ⟨a0, a1, a2, a3, a4, a5, a6, a7, a8, a9⟩ := RCells.ten (Br.below hb1)
      obtain ⟨b0, b1, b2, b3, b4⟩ := RCells.five (Bt.below hb1)
      go_wp2_with (first | (go_at_call 26; refine (in_spec _ _ _ _ (by assumption) (by assumption) (by assumption) (by assumption)).mono ?_; rintro e w' ⟨rfl, rfl⟩) | (go_at_call 34; refine (within_spec _ _ _ _).mono ?_; rintro e w' ⟨rfl, rfl⟩))
      all_goals
        go_ret
        exact ⟨ret_bool (by simp_all), bel_then hbW hb1⟩
    · go_enter Try.func14, Try.ntmps14
      go_wp2_with fail
      rw [← hW]
      refine hz.mono ?_
      rintro e w1 ⟨rfl, hb1⟩
      obtain ⟨a0, a1, a2, a3, a4, a5, a6, a7, a8, a9⟩ := RCells.ten (Br.below hb1)
      obtain ⟨b0, b1, b2, b3, b4⟩ := RCells.five (Bt.below hb1)
      go_wp2_with (first | (go_at_call 26; refine (in_spec _ _ _ _ (by assumption) (by assumption) (by assumption) (by assumption)).mono ?_; rintro e w' ⟨rfl, rfl⟩) | (go_at_call 34; refine (within_spec _ _ _ _).mono ?_; rintro e w' ⟨rfl, rfl⟩))
      all_goals
        go_ret
        exact ⟨ret_bool (by simp_all), bel_then hbW hb1⟩
end Go.Proofs.Ytdocojhjknhjnaa
