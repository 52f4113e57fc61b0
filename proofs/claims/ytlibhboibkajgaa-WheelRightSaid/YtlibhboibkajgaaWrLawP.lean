/- A wheel beside other blocks: what its calls leave alone. -/
import Derived.Test.YtlibhboibkajgaaWrTick
import Derived.Test.YtlibhboibkajgaaWrSet
import Derived.Test.YtlibhboibkajgaaWhTwo
namespace Go.Proofs.Ytlibhboibkajgaa
open Go.RowKit
set_option linter.unusedVariables false
/-- what a wheel's calls leave alone: blocks and rows of other types -/
structure Fr (w w' : World) : Prop where
  blk : ∀ g T vs, BlkV w g T vs → T ≠ 59 → T ≠ 61 → BlkV w' g T vs
  row : ∀ b e sz v n xs, w.ownsRow b e sz v n xs → e ≠ 59 → e ≠ 61 → w'.ownsRow b e sz v n xs
section
variable {w0 w w' : World} {L : Loc} {c : Nat} {es : List Mi.E} {ck : Nat} {l l' : List Wh.Al} {now now' : Int} {gw : Nat}
theorem WM.not_own (h : WM w L c es ck l now) {g : Nat} {T : TypeId} {vs : List Value} (hB : BlkV w g T vs) (h1 : T ≠ 59) (h2 : T ≠ 61) : ¬ L.own g := by
  rintro (rfl | rfl | hr)
  · have h3 := h.box
    unfold BlkV at h3 hB
    rw [hB] at h3
    injection h3 with h3
    injection h3 with _ h3
    exact h1 h3
  · have h3 := h.map.blk
    unfold BlkV at hB
    rw [hB] at h3
    cases h3
  · have h3 : (Value.slice L.A l.length c).ownBlock = some g := by unfold Loc.A; rw [hr]; rfl
    exact own_ne h.row hB (Ne.symm h2) h3
theorem Step.fr {L' : Loc} (h : WM w L c es ck l now) (hS : Step w w' L L') : Fr w w' := by
  have hb : ∀ g T vs, BlkV w g T vs → T ≠ 59 → T ≠ 61 → BlkV w' g T vs := fun g T vs hB h1 h2 =>
    (hS.keeps.block g hB.lt (h.not_own hB h1 h2)).trans hB
  refine ⟨hb, fun b e sz v n xs ho h1 h2 => own_block ho (fun g hg hl => ?_)⟩
  rcases ho.2 with ⟨rfl, _⟩ | ⟨g', cap, cur, rfl, _, hg', _⟩
  · cases hg
  · have : g' = g := by injection hg
    subst this
    have hB : BlkV w g' e cur.toList := by unfold BlkV; simpa using hg'
    exact (hb g' e _ hB h1 h2).trans hB.symm
theorem Fr.of_below (h : Below w.heap.size w w') : Fr w w' := ⟨fun g T vs hB _ _ => hB.below h, fun b e sz v n xs ho _ _ => own_below ho h⟩
theorem WF.setK (h : WF w0 gw l now w) (k t : Int) :
    Calls Try.prog 9 #[.pointer (some ⟨gw, 0, none⟩), .int .i64 k, .int .i64 t] w fun e w' => e = .returned (.int .i64 (Wh.setR l now k t).1) ∧ WF w0 gw (Wh.setR l now k t).2 now w' ∧ Fr w w' := by
  obtain ⟨L, c, es, ck, hg, hW, hL⟩ := h.wh
  subst hg
  refine (hW.set k t).mono ?_
  rintro e w' ⟨rfl, hG⟩
  obtain ⟨L', c', es', ck', q1, q2⟩ := id hG
  exact ⟨rfl, WF.go h.bel rfl hL hG, Step.fr hW q2⟩
theorem WF.dropK (h : WF w0 gw l now w) (k : Int) :
    Calls Try.prog 14 #[.pointer (some ⟨gw, 0, none⟩), .int .i64 k] w fun e w' =>
      e = .returned (.int .i64 (Wh.dropE l k)) ∧ WF w0 gw (Wh.dropAt l k) now w' ∧ Fr w w' := by
  unfold Wh.dropE Wh.dropAt
  obtain ⟨L, c, es, ck, hg, hW, hL⟩ := h.wh
  subst hg
  cases hk : Wh.place l k with
  | some i => exact (hW.drop_some hk).mono (by rintro e w' ⟨rfl, hg⟩; obtain ⟨L', c', es', ck', q1, q2⟩ := id hg; exact ⟨rfl, WF.go h.bel rfl hL hg, Step.fr hW q2⟩)
  | none => exact (hW.drop_none hk).mono (by rintro e w' ⟨rfl, rfl⟩; exact ⟨rfl, h, Fr.of_below (Below.refl _ _)⟩)
def WTickK (w0 w : World) (gw : Nat) (r : List Wh.Al × List Wh.Al) (t : Int) (e : Ending) (w' : World) : Prop :=
  ∃ B d, e = .returned (.tuple #[.slice B r.1.length d, .int .i64 0]) ∧ Rd w' 1 B r.1.length (ks r.1) ∧ WF w0 gw r.2 t w' ∧ Fr w w'
theorem WF.tickK (h : WF w0 gw l now w) {t : Int} (h0 : now ≤ t) (h1 : t ≤ 1099511627776) :
    Calls Try.prog 10 #[.pointer (some ⟨gw, 0, none⟩), .int .i64 t] w (WTickK w0 w gw (Wh.tickL (l.length + 1) l t) t) := by
  obtain ⟨L, c, es, ck, hg, hW, hL⟩ := h.wh
  subst hg
  refine (hW.tick h0 h1).mono ?_
  rintro e w' ⟨B, d, rfl, hO, hg⟩
  obtain ⟨L', c', es', ck', q1, q2⟩ := id hg
  exact ⟨B, d, rfl, Rd.of_own hO, WF.go h.bel rfl hL hg, Step.fr hW q2⟩
theorem WF.tick_bad (h : WF w0 gw l now w) {t : Int} (ht : t < now ∨ 1099511627776 < t) :
    Calls Try.prog 10 #[.pointer (some ⟨gw, 0, none⟩), .int .i64 t] w fun e w' => e = .returned (.tuple #[.slice none 0 0, .int .i64 1]) ∧ w = w' := by
  obtain ⟨L, c, es, ck, hg, hW, hL⟩ := h.wh
  subst hg
  exact hW.tick_bad ht
theorem WF.only {g : Nat} {T : TypeId} {vs : List Value} (h : WF w0 gw l now w) (hB : BlkV w g T vs) (h1 : T ≠ 59) (h2 : T ≠ 61) (ho : OnlyB g w w') (hg : w0.heap.size ≤ g) : WF w0 gw l now w' := by
  obtain ⟨L, c, es, ck, hgw, hW, hL⟩ := h.wh
  have hn := hW.not_own hB h1 h2
  exact ⟨ho.bel hg h.bel, L, c, es, ck, hgw, hW.keep (fun k hk _ => ho.block k (fun e => hn (e ▸ hk))), hL⟩
/-- When, as the reference says it -/
theorem WF.whenK {r : List Wh.Al} (h : WF w0 gw l now w) (ht : Wh.Twin l r) (k : Int) :
    Calls Try.prog 13 #[.pointer (some ⟨gw, 0, none⟩), .int .i64 k] w fun e w' => e = .returned (.tuple #[.int .i64 (Wh.whenT r k), .bool (Wh.whenB r k)]) ∧ w = w' := by
  have hW := h.when k
  unfold Wh.whenT Wh.whenB
  rcases ht.place k with ⟨h1, h2⟩ | ⟨i, j, h1, h2, h3⟩
  · rw [h1] at hW
    rw [h2]
    exact hW
  · rw [h1] at hW
    rw [h2]
    simp only at hW ⊢
    rw [h3] at hW
    exact hW
end
end Go.Proofs.Ytlibhboibkajgaa
