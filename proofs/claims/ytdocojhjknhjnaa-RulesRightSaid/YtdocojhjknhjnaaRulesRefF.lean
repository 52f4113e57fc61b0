/- The walk of the reference's Fits. -/
import Derived.Test.YtdocojhjknhjnaaRulesRef
namespace Go.Proofs.Ytdocojhjknhjnaa
open Go.RowKit
set_option linter.unusedVariables false
set_option linter.unusedSimpArgs false
set_option maxHeartbeats 4000000 in
theorem rfits_spec (r : Rules.Rule) (fr to : Int) (t : Rules.Tup) (w : World) (hr : r.wf) (ht : t.wf) :
    Calls Try.prog 17 #[.agg #[.int .i64 r.fr, .int .i64 r.to, .int .i64 r.proto, .int .u32 r.src, .int .u32 r.dst, .int .i64 r.sb, .int .i64 r.db, .int .i64 r.lo, .int .i64 r.hi, .int .i64 r.act], .int .i64 fr, .int .i64 to, .agg #[.int .i64 t.proto, .int .u32 t.src, .int .i64 t.sport, .int .u32 t.dst, .int .i64 t.dport]] w fun e w' => e = .returned (.bool (Rules.fitsB r fr to t)) ∧ Below w.heap.size w w' := by
  obtain ⟨⟨s0, s1⟩, d0, d1⟩ := hr
  obtain ⟨⟨u0, u1⟩, v0, v1⟩ := ht
  obtain ⟨z, hz⟩ : ∃ z, z = Rules.zonesB r fr to := ⟨_, rfl⟩
  have hF : Rules.fitsB r fr to t = (!(!z || (r.proto != 0 && r.proto != t.proto)) && (Net.inB t.src r.src r.sb && Net.inB t.dst r.dst r.db && Rules.withinB t.dport r.lo r.hi)) := by rw [hz]; rfl
  rw [hF]
  unfold Rules.withinB
  unfold Rules.zonesB at hz
  have HZ := Lib.hid hz
  clear hz hF
  cases h1 : (r.fr == -1) <;> cases h2 : (r.fr == fr) <;> cases h3 : (r.to == -1) <;> cases h4 : (r.to == to)
  all_goals
    have hz := HZ.out
    rw [h1, h2, h3, h4] at hz
    simp only [Bool.or_true, Bool.or_false, Bool.and_true, Bool.and_false, Bool.false_or, Bool.true_or] at hz
    subst hz
    have n1 : (r.fr != -1) = !(r.fr == -1) := rfl
    have n2 : (r.fr != fr) = !(r.fr == fr) := rfl
    have n3 : (r.to != -1) = !(r.to == -1) := rfl
    have n4 : (r.to != to) = !(r.to == to) := rfl
    rw [h1] at n1
    rw [h2] at n2
    rw [h3] at n3
    rw [h4] at n4
    simp only [Bool.not_true, Bool.not_false] at n1 n2 n3 n4
    clear HZ h1 h2 h3 h4
  all_goals
    go_enter Try.func17, Try.ntmps17
    go_wp2_with ((go_at_call 27; refine (rin_spec _ _ _ _ (by assumption) (by assumption) (by assumption) (by assumption)).mono ?_; rintro e w' ⟨rfl, rfl⟩))
  all_goals
    go_ret
    exact ⟨ret_bool (by first | (simp_all; done) | (simp_all; intros; omega)), ((Below.refl _ _).alloc (Nat.le_refl _) _).alloc (by simp) _⟩
end Go.Proofs.Ytdocojhjknhjnaa
