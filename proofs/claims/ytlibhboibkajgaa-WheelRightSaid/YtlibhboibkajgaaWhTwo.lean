/- Two wheels beside one another: what one of them does leaves the other one. Contracts over W2. -/
import Derived.Test.YtlibhboibkajgaaWhDropP
namespace Go.Proofs.Ytlibhboibkajgaa
open Go.RowKit
set_option linter.unusedVariables false
theorem own_block {w w' : World} {b n sz : Nat} {e : TypeId} {v : Value} {xs : List Value} (h : w.ownsRow b e sz v n xs) (hk : ∀ g, v.ownBlock = some g → g < w.heap.size → w'.heap[g]? = w.heap[g]?) : w'.ownsRow b e sz v n xs := by
  rcases h with ⟨h1, h2 | ⟨g, cap, cur, e1, h3, h4, h5⟩⟩
  · exact ⟨h1, .inl h2⟩
  · exact ⟨h1, .inr ⟨g, cap, cur, e1, h3, (hk g (by subst e1; rfl) (Array.getElem?_eq_some_iff.1 h4).1).trans h4, h5⟩⟩
section
variable {w w' : World} {L : Loc} {c : Nat} {es : List Mi.E} {ck : Nat} {l : List Wh.Al} {now : Int}
theorem Loc.own_A {L : Loc} {n c g : Nat} (h : (Value.slice L.A n c).ownBlock = some g) : L.own g := by
  unfold Loc.A at h
  cases hr : L.gr with
  | none => rw [hr] at h; cases h
  | some k =>
    rw [hr] at h
    have h2 : some k = some g := h
    injection h2 with h2
    subst h2
    exact Or.inr (Or.inr hr)
/-- a wheel whose own blocks stay -/
theorem WM.keep (h : WM w L c es ck l now) (hk : ∀ k, L.own k → k < w.heap.size → w'.heap[k]? = w.heap[k]?) : WM w' L c es ck l now :=
  ⟨(hk _ (Or.inl rfl) h.box.lt).trans h.box, own_block h.row (fun g hg hl => hk g (Loc.own_A hg) hl), ⟨(hk _ (Or.inr (Or.inl rfl)) h.map.lt).trans h.map.blk, h.map.ok⟩, h.dist, h.pl, h.sm⟩
theorem WM.own_lt (h : WM w L c es ck l now) {k : Nat} (hk : L.own k) : k < w.heap.size := by
  rcases hk with rfl | rfl | hk
  · exact h.box.lt
  · exact h.map.lt
  · rcases h.row.2 with ⟨hv, _⟩ | ⟨g, cap, cur, hv, hb, hg, _⟩
    · injection hv with hA _ _
      unfold Loc.A at hA
      rw [hk] at hA
      cases hA
    · injection hv with hA _ _
      unfold Loc.A at hA
      rw [hk] at hA
      injection hA with hA
      injection hA with hA
      subst hA
      exact (Array.getElem?_eq_some_iff.1 hg).1
/-- Set, whatever it answers -/
theorem WM.set (h : WM w L c es ck l now) (k t : Int) :
    Calls Try.prog 9 #[.pointer (some ⟨L.gw, 0, none⟩), .int .i64 k, .int .i64 t] w fun e w' => e = .returned (.int .i64 (Wh.setR l now k t).1) ∧ Wgo w L (Wh.setR l now k t).2 now w' := by
  have h0 : Wgo w L l now w := h.stay (Below.refl _ _)
  unfold Wh.setR
  by_cases hb : ¬ (0 ≤ k ∧ k ≤ 2147483647 ∧ 0 ≤ t ∧ t ≤ 1099511627776)
  · rw [if_pos hb]
    exact (set_bad L.gw hb).mono (by rintro e w' ⟨rfl, rfl⟩; exact ⟨rfl, h0⟩)
  · rw [if_neg hb]
    obtain ⟨h0', h1, h2, h3⟩ := Decidable.not_not.1 hb
    by_cases hn : t ≤ now
    · rw [if_pos hn]
      exact (h.set_late h0' h1 h2 h3 hn).mono (by rintro e w' ⟨rfl, rfl⟩; exact ⟨rfl, h0⟩)
    · rw [if_neg hn]
      cases hk : Wh.place l k with
      | some i =>
        rw [if_neg (by simp)]
        exact h.set_some hk h0' h1 h2 h3 (by omega)
      | none =>
        have hs := h.sm
        by_cases h5 : l.length = 256
        · rw [if_pos ⟨by simp, h5⟩]
          exact (h.set_full hk h0' h1 h2 h3 (by omega) h5).mono (by rintro e w' ⟨rfl, rfl⟩; exact ⟨rfl, h0⟩)
        · rw [if_neg (fun q => h5 q.2)]
          exact h.set_new hk h0' h1 h2 h3 (by omega) (by omega)
end
/-- two wheels, at ga and gb; of w only new blocks are others -/
structure W2 (w0 : World) (ga : Nat) (la : List Wh.Al) (na : Int) (gb : Nat) (lb : List Wh.Al) (nb : Int) (w : World) : Prop where
  bel : Below w0.heap.size w0 w
  wh : ∃ A ca ea ka B cb eb kb, A.gw = ga ∧ B.gw = gb ∧ WM w A ca ea ka la na ∧ WM w B cb eb kb lb nb ∧ (∀ k, A.own k → w0.heap.size ≤ k) ∧ (∀ k, B.own k → w0.heap.size ≤ k) ∧ ∀ k, A.own k → ¬ B.own k
section
variable {w0 w w' : World} {ga gb : Nat} {la lb la' : List Wh.Al} {na nb na' : Int}
theorem W2.symm (h : W2 w0 ga la na gb lb nb w) : W2 w0 gb lb nb ga la na w := by
  obtain ⟨A, ca, ea, ka, B, cb, eb, kb, h1, h2, h3, h4, h5, h6, h7⟩ := h.wh
  exact ⟨h.bel, B, cb, eb, kb, A, ca, ea, ka, h2, h1, h4, h3, h6, h5, fun k hb ha => h7 k ha hb⟩
theorem W2.below (h : W2 w0 ga la na gb lb nb w) (hb : Below w.heap.size w w') : W2 w0 ga la na gb lb nb w' := by
  obtain ⟨A, ca, ea, ka, B, cb, eb, kb, h1, h2, h3, h4, h5, h6, h7⟩ := h.wh
  exact ⟨bel_then h.bel hb, A, ca, ea, ka, B, cb, eb, kb, h1, h2, h3.below hb, h4.below hb, h5, h6, h7⟩
/-- a wheel that is made beside one -/
theorem W2.new (w : World) : ∀ {gw : Nat} {l : List Wh.Al} {now : Int}, WF w0 gw l now w →
    Calls Try.prog 8 #[] w fun e w' => ∃ gb, e = .returned (.pointer (some ⟨gb, 0, none⟩)) ∧ W2 w0 gw l now gb [] 0 w' := by
  intro gw l now h
  obtain ⟨L, c, es, ck, hg, hW, hL⟩ := h.wh
  refine (wnew_spec w).mono ?_
  rintro e w' ⟨gb, gm, rfl, h1, h2, hb, hN⟩
  have hs := h.bel.size
  refine ⟨gb, rfl, bel_then h.bel hb, L, c, es, ck, ⟨gb, none, gm⟩, 0, [], 0, hg, rfl, hW.below hb, hN, hL, fun k hk => ?_, fun k ha hk => ?_⟩
  · rcases hk with e | e | e
    · rw [e]; exact Nat.le_trans hs h1
    · rw [e]; exact Nat.le_trans hs h2
    · cases e
  · have hlt := hW.own_lt ha
    rcases hk with e | e | e
    · subst e; omega
    · subst e; omega
    · cases e
theorem W2.go {A : Loc} {ca : Nat} {ea : List Mi.E} {ka : Nat} {B : Loc} {cb : Nat} {eb : List Mi.E} {kb : Nat} (hbel : Below w0.heap.size w0 w) (h1 : A.gw = ga) (h2 : B.gw = gb) (h3 : WM w A ca ea ka la na) (h4 : WM w B cb eb kb lb nb) (h5 : ∀ k, A.own k → w0.heap.size ≤ k) (h6 : ∀ k, B.own k → w0.heap.size ≤ k) (h7 : ∀ k, A.own k → ¬ B.own k)
    (hg : Wgo w A la' na' w') : W2 w0 ga la' na' gb lb nb w' := by
  obtain ⟨A', c', es', ck', hW, hS⟩ := hg
  refine ⟨hS.keeps.below hbel h5 hbel.size, A', c', es', ck', B, cb, eb, kb, hS.gw.trans h1, h2, hW, h4.keep (fun k hk hl => hS.keeps.block k hl (fun ha => h7 k ha hk)), hS.own_ge h5 hbel.size, h6, fun k ha hb => ?_⟩
  have hlt := h4.own_lt hb
  rcases ha with e | e | e
  · exact h7 k (Or.inl (e.trans hS.gw)) hb
  · exact h7 k (Or.inr (Or.inl (e.trans hS.gm))) hb
  · rcases hS.gr k e with q | q
    · exact h7 k (Or.inr (Or.inr q)) hb
    · omega
theorem W2.set (h : W2 w0 ga la na gb lb nb w) (k t : Int) :
    Calls Try.prog 9 #[.pointer (some ⟨ga, 0, none⟩), .int .i64 k, .int .i64 t] w fun e w' => e = .returned (.int .i64 (Wh.setR la na k t).1) ∧ W2 w0 ga (Wh.setR la na k t).2 na gb lb nb w' := by
  obtain ⟨A, ca, ea, ka, B, cb, eb, kb, h1, h2, h3, h4, h5, h6, h7⟩ := h.wh
  subst h1
  exact (h3.set k t).mono (by rintro e w' ⟨rfl, hg⟩; exact ⟨rfl, W2.go h.bel rfl h2 h3 h4 h5 h6 h7 hg⟩)
/-- Tick within the bounds, beside another wheel -/
def WTick2 (w0 w : World) (ga : Nat) (r : List Wh.Al × List Wh.Al) (t : Int) (gb : Nat) (lb : List Wh.Al) (nb : Int) (e : Ending) (w' : World) : Prop :=
  ∃ B d, e = .returned (.tuple #[.slice B r.1.length d, .int .i64 0]) ∧ w'.ownsRow w.heap.size 3 1 (.slice B r.1.length d) r.1.length (ks r.1) ∧ W2 w0 ga r.2 t gb lb nb w' ∧ ∀ b v n xs, w.ownsRow b 3 1 v n xs → w'.ownsRow b 3 1 v n xs
theorem W2.tick (h : W2 w0 ga la na gb lb nb w) {t : Int} (h0 : na ≤ t) (ht : t ≤ 1099511627776) :
    Calls Try.prog 10 #[.pointer (some ⟨ga, 0, none⟩), .int .i64 t] w (WTick2 w0 w ga (Wh.tickL (la.length + 1) la t) t gb lb nb) := by
  obtain ⟨A, ca, ea, ka, B, cb, eb, kb, h1, h2, h3, h4, h5, h6, h7⟩ := h.wh
  subst h1
  refine (h3.tick h0 ht).mono ?_
  rintro e w' ⟨B, d, rfl, hO, hg⟩
  refine ⟨B, d, rfl, hO, W2.go h.bel rfl h2 h3 h4 h5 h6 h7 hg, fun b v n xs ho => ?_⟩
  obtain ⟨L', c', es', ck', q1, q2⟩ := hg
  exact own_step h3 ho q2
theorem W2.waits (h : W2 w0 ga la na gb lb nb w) :
    Calls Try.prog 12 #[.pointer (some ⟨ga, 0, none⟩)] w fun e w' => e = .returned (.int .i64 la.length) ∧ w = w' := by
  obtain ⟨A, ca, ea, ka, B, cb, eb, kb, h1, h2, h3, h4, h5, h6, h7⟩ := h.wh
  subst h1
  exact h3.waits
theorem W2.sm (h : W2 w0 ga la na gb lb nb w) : la.length ≤ 256 ∧ lb.length ≤ 256 := by
  obtain ⟨A, ca, ea, ka, B, cb, eb, kb, h1, h2, h3, h4, h5, h6, h7⟩ := h.wh
  exact ⟨h3.sm, h4.sm⟩
end
end Go.Proofs.Ytlibhboibkajgaa
