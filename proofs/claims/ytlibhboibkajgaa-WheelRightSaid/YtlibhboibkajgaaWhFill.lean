/- A wheel that is filled number by number; contracts of Drop, Waits, When, Now over WF. -/
import Derived.Test.YtlibhboibkajgaaWhAwake
namespace Go.Proofs.Ytlibhboibkajgaa
open Go.RowKit
set_option linter.unusedVariables false
namespace Wh
def fill (a : List Int) : Nat → List Al
  | 0 => []
  | i + 1 => setL (fill a i) i (a.getD i 0 + 1)
theorem fill_law (a : List Int) : ∀ i, Wok (fill a i) ∧ (fill a i).length = i ∧ ∀ x, x ∈ fill a i ↔ ∃ j : Nat, j < i ∧ x = ⟨j, a.getD j 0 + 1⟩ := by
  intro i
  induction i with
  | zero => exact ⟨Wok.nil, rfl, fun x => by simp [fill]⟩
  | succ i ih =>
    obtain ⟨h1, h2, h3⟩ := ih
    have hp : place (fill a i) i = none := by
      cases hp : place (fill a i) i with
      | none => rfl
      | some p =>
        obtain ⟨q1, q2⟩ := place_some hp
        obtain ⟨j, hj, e⟩ := (h3 _).1 (al_mem q1)
        rw [e] at q2
        simp only at q2
        omega
    refine ⟨h1.set _ _, by show (setL _ _ _).length = _; rw [set_len, hp, h2]; rfl, fun x => ?_⟩
    show x ∈ setL _ _ _ ↔ _
    rw [mem_set h1.dist, h3]
    constructor
    · rintro (rfl | ⟨⟨j, hj, rfl⟩, hk⟩)
      · exact ⟨i, by omega, rfl⟩
      · exact ⟨j, by omega, rfl⟩
    · rintro ⟨j, hj, rfl⟩
      by_cases e : j = i
      · subst e; exact Or.inl rfl
      · exact Or.inr ⟨⟨j, by omega, rfl⟩, by simp only; omega⟩
theorem fill_none (a : List Int) (i : Nat) : place (fill a i) i = none := by
  obtain ⟨h1, h2, h3⟩ := fill_law a i
  cases hp : place (fill a i) i with
  | none => rfl
  | some p =>
    obtain ⟨q1, q2⟩ := place_some hp
    obtain ⟨j, hj, e⟩ := (h3 _).1 (al_mem q1)
    rw [e] at q2
    simp only at q2
    omega
theorem fill_setR (a : List Int) (i : Nat) (hi : i < 256) (h0 : 0 ≤ a.getD i 0) (h1 : a.getD i 0 ≤ 65535) : setR (fill a i) 0 i (a.getD i 0 + 1) = (0, fill a (i + 1)) := by
  have h2 := (fill_law a i).2.1
  unfold setR
  rw [if_neg (by omega), if_neg (by omega), if_neg (by omega)]
  rfl
end Wh
theorem WF.drop {w0 w : World} {gw : Nat} {l : List Wh.Al} {now : Int} (h : WF w0 gw l now w) (k : Int) :
    Calls Try.prog 14 #[.pointer (some ⟨gw, 0, none⟩), .int .i64 k] w fun e w' =>
      e = .returned (.int .i64 (match Wh.place l k with | some _ => 0 | none => 9)) ∧ WF w0 gw (match Wh.place l k with | some i => Wh.remL l i | none => l) now w' := by
  obtain ⟨L, c, es, ck, hg, hW, hL⟩ := h.wh
  subst hg
  cases hk : Wh.place l k with
  | some i => exact (hW.drop_some hk).mono (by rintro e w' ⟨rfl, hg⟩; exact ⟨rfl, WF.go h.bel rfl hL hg⟩)
  | none => exact (hW.drop_none hk).mono (by rintro e w' ⟨rfl, rfl⟩; exact ⟨rfl, h⟩)
theorem WF.waits {w0 w : World} {gw : Nat} {l : List Wh.Al} {now : Int} (h : WF w0 gw l now w) :
    Calls Try.prog 12 #[.pointer (some ⟨gw, 0, none⟩)] w fun e w' => e = .returned (.int .i64 l.length) ∧ w = w' := by
  obtain ⟨L, c, es, ck, hg, hW, hL⟩ := h.wh
  subst hg
  exact hW.waits
theorem WF.nowc {w0 w : World} {gw : Nat} {l : List Wh.Al} {now : Int} (h : WF w0 gw l now w) :
    Calls Try.prog 19 #[.pointer (some ⟨gw, 0, none⟩)] w fun e w' => e = .returned (.int .i64 now) ∧ w = w' := by
  obtain ⟨L, c, es, ck, hg, hW, hL⟩ := h.wh
  subst hg
  exact hW.nowc
theorem WF.when {w0 w : World} {gw : Nat} {l : List Wh.Al} {now : Int} (h : WF w0 gw l now w) (k : Int) :
    Calls Try.prog 13 #[.pointer (some ⟨gw, 0, none⟩), .int .i64 k] w fun e w' =>
      e = .returned (.tuple #[.int .i64 (match Wh.place l k with | some i => (Wh.al l i).t | none => 0), .bool (Wh.place l k).isSome]) ∧ w = w' := by
  obtain ⟨L, c, es, ck, hg, hW, hL⟩ := h.wh
  subst hg
  cases hk : Wh.place l k with
  | some i => exact hW.when_some hk
  | none => exact hW.when_none hk
theorem WF.sm {w0 w : World} {gw : Nat} {l : List Wh.Al} {now : Int} (h : WF w0 gw l now w) : l.length ≤ 256 ∧ (l.map (·.k)).Nodup := by
  obtain ⟨L, c, es, ck, hg, hW, hL⟩ := h.wh
  exact ⟨hW.sm, hW.dist⟩
end Go.Proofs.Ytlibhboibkajgaa
