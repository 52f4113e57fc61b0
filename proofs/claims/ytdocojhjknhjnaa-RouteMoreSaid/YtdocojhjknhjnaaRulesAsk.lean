/- The walks of the closure of rules.Ask, of rules.Ask and rules.Pairs. -/
import Derived.Test.YtdocojhjknhjnaaRulesLoops
namespace Go.Proofs.Ytdocojhjknhjnaa
open Go.RowKit
set_option linter.unusedVariables false
set_option maxHeartbeats 2000000 in
theorem askFits_spec (r : Rules.Rule) (fr to : Int) (t : Rules.Tup) (W : World) (hr : r.wf) (ht : t.wf) (g1 g2 g3 : Nat) (h1 : RCells W g1 [.int .i64 fr]) (h2 : RCells W g2 [.int .i64 to]) (h3 : RCells W g3 t.cells) :
    Calls Try.prog 29 #[.agg #[.int .i64 r.fr, .int .i64 r.to, .int .i64 r.proto, .int .u32 r.src, .int .u32 r.dst, .int .i64 r.sb, .int .i64 r.db, .int .i64 r.lo, .int .i64 r.hi, .int .i64 r.act], .pointer (some ⟨g1, 0, none⟩), .pointer (some ⟨g2, 0, none⟩), .pointer (some ⟨g3, 0, none⟩)] W fun e w' => e = .returned (.bool (Rules.fitsB r fr to t)) ∧ Below W.heap.size W w' := by
  obtain ⟨b0, b1, b2, b3, b4⟩ := RCells.five h3
  have c1 : W.cell? ⟨g1, 0, none⟩ = some (.int .i64 fr) := h1.2 0 _ rfl
  have c2 : W.cell? ⟨g2, 0, none⟩ = some (.int .i64 to) := h2.2 0 _ rfl
  have l1 := h1.1
  have l2 := h2.1
  have l3 := h3.1
  clear h1 h2 h3
  go_enter Try.func29, Try.ntmps29
  go_wp2_with (go_at_call 14; refine (fits_spec r fr to t _ hr ht).mono ?_; rintro e w1 ⟨rfl, hb1⟩)
  go_ret
  exact ⟨rfl, bel_then ((Below.refl _ _).alloc (Nat.le_refl _) _) hb1⟩
/-- rules.Ask's answers -/
def Rules.askAct (l : List Rules.Rule) (fr to : Int) (t : Rules.Tup) : Int := if Rules.rightB l then (if idx (fun r => Rules.fitsB r fr to t) l < 0 then 1 else (l[(idx (fun r => Rules.fitsB r fr to t) l).toNat]!).act) else 1
def Rules.askAt (l : List Rules.Rule) (fr to : Int) (t : Rules.Tup) : Int := if Rules.rightB l then idx (fun r => Rules.fitsB r fr to t) l else -1
theorem idx_ge (p : Rules.Rule → Bool) : ∀ (l : List Rules.Rule), -1 ≤ idx p l ∧ idx p l < l.length := by
  intro l
  induction l with
  | nil => exact ⟨by simp [idx], by simp [idx]⟩
  | cons r t ih =>
    simp only [idx]
    split
    · exact ⟨by omega, by simp⟩
    · split
      · exact ⟨by omega, by simp; omega⟩
      · exact ⟨by omega, by simp; omega⟩
set_option maxHeartbeats 2000000 in
theorem ask_spec (A : Option Addr) (n c : Nat) (l : List Rules.Rule) (fr to : Int) (t : Rules.Tup) (w : World) (hrd : RdRow w A n l) (hr : ∀ r ∈ l, r.wf) (ht : t.wf) :
    Calls Try.prog 12 #[.slice A n c, .int .i64 fr, .int .i64 to, .agg #[.int .i64 t.proto, .int .u32 t.src, .int .i64 t.sport, .int .u32 t.dst, .int .i64 t.dport]] w fun e w' => e = .returned (.tuple #[.int .i64 (Rules.askAct l fr to t), .int .i64 (Rules.askAt l fr to t)]) ∧ Below w.heap.size w w' := by
  obtain ⟨V, hV⟩ : ∃ V, V = ((w.alloc (.cells #[.int .i64 fr] 3)).alloc (.cells #[.int .i64 to] 3)).alloc (.cells #[.int .i64 t.proto, .int .u32 t.src, .int .i64 t.sport, .int .u32 t.dst, .int .i64 t.dport] 25) := ⟨_, rfl⟩
  have hbV : Below w.heap.size w V := by rw [hV]; exact (((Below.refl _ _).alloc (Nat.le_refl _) _).alloc (by simp) _).alloc (by simp; omega) _
  have B1 : RCells V w.heap.size [.int .i64 fr] := by
    rw [hV]; exact ((RCells.new w [.int .i64 fr] 3).below ((Below.refl _ _).alloc (Nat.le_refl _) _)).below ((Below.refl _ _).alloc (Nat.le_refl _) _)
  have B2 : RCells V (w.heap.size + 1) [.int .i64 to] := by
    rw [hV]
    have := (RCells.new (w.alloc (.cells #[.int .i64 fr] 3)) [.int .i64 to] 3)
    have e : (w.alloc (.cells #[.int .i64 fr] 3)).heap.size = w.heap.size + 1 := by simp
    rw [e] at this
    exact this.below ((Below.refl _ _).alloc (Nat.le_refl _) _)
  have B3 : RCells V (w.heap.size + 2) t.cells := by
    rw [hV]
    have := RCells.new ((w.alloc (.cells #[.int .i64 fr] 3)).alloc (.cells #[.int .i64 to] 3)) t.cells 25
    have e : ((w.alloc (.cells #[.int .i64 fr] 3)).alloc (.cells #[.int .i64 to] 3)).heap.size = w.heap.size + 2 := by simp
    rw [e] at this
    exact this
  have hrV := hrd.below hbV
  have hright := rulesRight_spec A n c l V hrV
  have eg : ∀ args w, (callFunc 29 args).run Try.prog w = .ok (.enter 29 args) w := enters_of Try.func29 (by kernel_rfl) rfl
  have hidx : ∀ w1, Below V.heap.size V w1 → Calls Try.prog 28 #[.slice A n c, .func (.func 29) #[] #[.pointer (some ⟨w.heap.size, 0, none⟩), .pointer (some ⟨w.heap.size + 1, 0, none⟩), .pointer (some ⟨w.heap.size + 2, 0, none⟩)]] w1 fun e w' => e = .returned (.int .i64 (idx (fun r => Rules.fitsB r fr to t) l)) ∧ Below w1.heap.size w1 w' := by
    intro w1 hb
    refine indexFunc_spec 29 _ (fun r => Rules.fitsB r fr to t) Rules.Rule.wf A n c l w1 eg ?_ hr (hrV.below hb)
    intro W r hr' hW
    exact askFits_spec r fr to t W hr' ht _ _ _ ((B1.below hb).below hW) ((B2.below hb).below hW) ((B3.below hb).below hW)
  have hg := idx_ge (fun r => Rules.fitsB r fr to t) l
  have hl := hrd.1
  have hbig := hrd.2.1
  unfold Rules.askAct Rules.askAt
  generalize idx (fun r => Rules.fitsB r fr to t) l = k at hidx hg ⊢
  cases hq : Rules.rightB l
  · rw [hq] at hright
    go_enter Try.func12, Try.ntmps12
    go_wp2_with fail
    rw [← hV]
    refine hright.mono ?_
    rintro e w1 ⟨rfl, hb1⟩
    go_wp2
    go_ret2
    exact ⟨rfl, bel_then hbV hb1⟩
  · rw [hq] at hright
    by_cases hk : k < 0
    · go_enter Try.func12, Try.ntmps12
      go_wp2_with fail
      rw [← hV]
      refine hright.mono ?_
      rintro e w1 ⟨rfl, hb1⟩
      have hi := hidx w1 hb1
      clear hidx hright hV
      go_wp2_with (go_at_call 28; refine (hi).mono ?_; rintro e w2 ⟨rfl, hb2⟩)
      go_ret2
      exact ⟨by simp; omega, bel_then (bel_then hbV hb1) hb2⟩
    · obtain ⟨m, rfl⟩ : ∃ m : Nat, k = m := ⟨k.toNat, by omega⟩
      have hm : m < n := by omega
      obtain ⟨b, off, rfl, l2⟩ := hrd.2.2 m hm
      have l3 : ∀ w2, Below w.heap.size w w2 → w2.cell? ⟨b, off + m * 10 + 9, none⟩ = some (.int .i64 (l[m]!).act) := fun w2 hb => (hb.cell (p := ⟨b, off + m * 10 + 9, none⟩) l2.1).trans (l2.2 9 _ rfl)
      go_enter Try.func12, Try.ntmps12
      go_wp2_with fail
      rw [← hV]
      refine hright.mono ?_
      rintro e w1 ⟨rfl, hb1⟩
      have hi := hidx w1 hb1
      have hbb := bel_then hbV hb1
      clear hidx hright hV hbV hrV hrd B1 B2 B3 l2
      go_wp2_with fail
      refine hi.mono ?_
      rintro e w2 ⟨rfl, hb2⟩
      have hbc := bel_then hbb hb2
      have l4 := l3 w2 hbc
      go_wp2
      go_ret2
      exact ⟨by simp, hbc⟩
end Go.Proofs.Ytdocojhjknhjnaa
