/- The walk of casematelaw11.awake. -/
import Derived.Test.YtlibhboibkajgaaWhTick
import Derived.Test.YtlibhboibkajgaaWhLaw
namespace Go.Proofs.Ytlibhboibkajgaa
open Go.RowKit
set_option linter.unusedVariables false
set_option linter.unusedSimpArgs false
/-- the wheel at gw holds l, stands at now; of w only new blocks are others -/
structure WF (w0 : World) (gw : Nat) (l : List Wh.Al) (now : Int) (w : World) : Prop where
  bel : Below w0.heap.size w0 w
  wh : ∃ L c es ck, L.gw = gw ∧ WM w L c es ck l now ∧ ∀ k, L.own k → w0.heap.size ≤ k
theorem Step.own_ge {w w' : World} {L L' : Loc} {B : Nat} (h : Step w w' L L') (hL : ∀ k, L.own k → B ≤ k) (hB : B ≤ w.heap.size) : ∀ k, L'.own k → B ≤ k := by
  intro k hk
  rcases hk with e | e | e
  · exact hL k (Or.inl (e.trans h.gw))
  · exact hL k (Or.inr (Or.inl (e.trans h.gm)))
  · rcases h.gr k e with h1 | h1
    · exact hL k (Or.inr (Or.inr h1))
    · omega
theorem WF.go {w0 w w' : World} {gw : Nat} {l' : List Wh.Al} {now' : Int} {L : Loc} (hb : Below w0.heap.size w0 w) (hg : L.gw = gw) (hL : ∀ k, L.own k → w0.heap.size ≤ k) (h : Wgo w L l' now' w') : WF w0 gw l' now' w' := by
  obtain ⟨L', c', es', ck', h1, h2⟩ := h
  exact ⟨h2.keeps.below hb hL hb.size, L', c', es', ck', h2.gw.trans hg, h1, h2.own_ge hL hb.size⟩
theorem WF.below {w0 w w' : World} {gw : Nat} {l : List Wh.Al} {now : Int} (h : WF w0 gw l now w) (hb : Below w.heap.size w w') : WF w0 gw l now w' := by
  obtain ⟨L, c, es, ck, h1, h2, h3⟩ := h.wh
  exact ⟨bel_then h.bel hb, L, c, es, ck, h1, h2.below hb, h3⟩
theorem wnew_wf (w : World) : Calls Try.prog 8 #[] w fun e w' => ∃ gw, e = .returned (.pointer (some ⟨gw, 0, none⟩)) ∧ WF w gw [] 0 w' := by
  refine (wnew_spec w).mono ?_
  rintro e w' ⟨gw, gm, rfl, h1, h2, hb, hW⟩
  refine ⟨gw, rfl, hb, _, _, _, _, rfl, hW, fun k hk => ?_⟩
  rcases hk with e | e | e
  · rw [e]; exact h1
  · rw [e]; exact h2
  · cases e
/-- what Set answers, and what it leaves -/
def Wh.setR (l : List Wh.Al) (now k t : Int) : Int × List Wh.Al :=
  if ¬ (0 ≤ k ∧ k ≤ 2147483647 ∧ 0 ≤ t ∧ t ≤ 1099511627776) then (1, l) else if t ≤ now then (14, l) else if (Wh.place l k).isNone ∧ l.length = 256 then (8, l) else (0, Wh.setL l k t)
theorem WF.set {w0 w : World} {gw : Nat} {l : List Wh.Al} {now : Int} (h : WF w0 gw l now w) (k t : Int) :
    Calls Try.prog 9 #[.pointer (some ⟨gw, 0, none⟩), .int .i64 k, .int .i64 t] w fun e w' => e = .returned (.int .i64 (Wh.setR l now k t).1) ∧ WF w0 gw (Wh.setR l now k t).2 now w' := by
  obtain ⟨L, c, es, ck, hg, hW, hL⟩ := h.wh
  subst hg
  unfold Wh.setR
  by_cases hb : ¬ (0 ≤ k ∧ k ≤ 2147483647 ∧ 0 ≤ t ∧ t ≤ 1099511627776)
  · rw [if_pos hb]
    exact (set_bad L.gw hb).mono (by rintro e w' ⟨rfl, rfl⟩; exact ⟨rfl, h⟩)
  · rw [if_neg hb]
    obtain ⟨h0, h1, h2, h3⟩ := Decidable.not_not.1 hb
    by_cases hn : t ≤ now
    · rw [if_pos hn]
      exact (hW.set_late h0 h1 h2 h3 hn).mono (by rintro e w' ⟨rfl, rfl⟩; exact ⟨rfl, h⟩)
    · rw [if_neg hn]
      cases hk : Wh.place l k with
      | some i =>
        rw [if_neg (by simp)]
        exact (hW.set_some hk h0 h1 h2 h3 (by omega)).mono (by rintro e w' ⟨rfl, hg⟩; exact ⟨rfl, WF.go h.bel rfl hL hg⟩)
      | none =>
        have hs := hW.sm
        by_cases h5 : l.length = 256
        · rw [if_pos ⟨by simp, h5⟩]
          exact (hW.set_full hk h0 h1 h2 h3 (by omega) h5).mono (by rintro e w' ⟨rfl, rfl⟩; exact ⟨rfl, h⟩)
        · rw [if_neg (fun q => h5 q.2)]
          exact (hW.set_new hk h0 h1 h2 h3 (by omega) (by omega)).mono (by rintro e w' ⟨rfl, hg⟩; exact ⟨rfl, WF.go h.bel rfl hL hg⟩)
/-- Tick within the bounds -/
def WTick (w0 w : World) (gw : Nat) (r : List Wh.Al × List Wh.Al) (t : Int) (e : Ending) (w' : World) : Prop :=
  ∃ B d, e = .returned (.tuple #[.slice B r.1.length d, .int .i64 0]) ∧ Rd w' 1 B r.1.length (ks r.1) ∧ w'.ownsRow w.heap.size 3 1 (.slice B r.1.length d) r.1.length (ks r.1) ∧ WF w0 gw r.2 t w' ∧ ∀ b v n xs, w.ownsRow b 3 1 v n xs → w'.ownsRow b 3 1 v n xs
theorem WF.tick {w0 w : World} {gw : Nat} {l : List Wh.Al} {now : Int} (h : WF w0 gw l now w) {t : Int} (h0 : now ≤ t) (h1 : t ≤ 1099511627776) :
    Calls Try.prog 10 #[.pointer (some ⟨gw, 0, none⟩), .int .i64 t] w (WTick w0 w gw (Wh.tickL (l.length + 1) l t) t) := by
  obtain ⟨L, c, es, ck, hg, hW, hL⟩ := h.wh
  subst hg
  refine (hW.tick h0 h1).mono ?_
  rintro e w' ⟨B, d, rfl, hO, hg⟩
  refine ⟨B, d, rfl, Rd.of_own hO, hO, WF.go h.bel rfl hL hg, fun b v n xs ho => ?_⟩
  obtain ⟨L', c', es', ck', h1, h2⟩ := hg
  exact own_step hW ho h2
theorem up_two : Wh.setL (Wh.setL [] 7 5) 8 3 = [⟨8, 3⟩, ⟨7, 5⟩] := by decide
theorem tick_one : Wh.tickL 3 [⟨8, 3⟩, ⟨7, 5⟩] 4 = ([⟨8, 3⟩], [⟨7, 5⟩]) := by decide
theorem tick_two : Wh.tickL 2 [⟨7, 5⟩] 9 = ([⟨7, 5⟩], []) := by decide
set_option maxHeartbeats 4000000 in
theorem awake_spec (w : World) : Calls Try.prog 7 #[] w fun e w' => e = .returned (.bool true) ∧ Below w.heap.size w w' := by
  have HN := Lib.hid (wnew_wf w)
  go_enter Try.func7, Try.ntmps7
  go_wp2_with fail
  refine HN.out.mono ?_
  rintro e w1 ⟨gw, rfl, hF⟩
  clear HN
  have HS := Lib.hid (hF.set 7 5)
  clear hF
  go_wp2_with fail
  refine HS.out.mono ?_
  rintro e w2 ⟨rfl, hF⟩
  clear HS
  have e1 : Wh.setR [] 0 7 5 = (0, Wh.setL [] 7 5) := by decide
  rw [e1] at hF ⊢
  have HS := Lib.hid (hF.set 8 3)
  have e2 : Wh.setR (Wh.setL [] 7 5) 0 8 3 = (0, [⟨8, 3⟩, ⟨7, 5⟩]) := by decide
  rw [e2] at HS
  clear hF e1 e2
  go_wp2_with fail
  refine HS.out.mono ?_
  rintro e w3 ⟨rfl, hF⟩
  clear HS
  have HT := hF.tick (t := 4) (by decide) (by decide)
  rw [show Wh.tickL (([⟨8, 3⟩, ⟨7, 5⟩] : List Wh.Al).length + 1) [⟨8, 3⟩, ⟨7, 5⟩] 4 = ([⟨8, 3⟩], [⟨7, 5⟩]) from tick_one] at HT
  have HT := Lib.hid HT
  clear hF
  go_wp2_with fail
  refine HT.out.mono ?_
  rintro e w4 ⟨B, d, rfl, hR, hO, hF, hk⟩
  clear HT hk
  have HT := hF.tick (t := 9) (by decide) (by decide)
  rw [show Wh.tickL (([⟨7, 5⟩] : List Wh.Al).length + 1) [⟨7, 5⟩] 9 = ([⟨7, 5⟩], []) from tick_two] at HT
  have HT := Lib.hid HT
  have HO := Lib.hid hO
  clear hF hR hO
  go_wp2_with fail
  refine HT.out.mono ?_
  rintro e w5 ⟨B2, d2, rfl, hR2, hO2, hF, hk⟩
  have hR := Rd.of_own (hk _ _ _ _ HO.out)
  obtain ⟨b1, o1, rfl, hb1, hc1⟩ := hR.2 (by decide)
  obtain ⟨b2, o2, rfl, hb2, hc2⟩ := hR2.2 (by decide)
  have x1 := hc1 0 _ rfl
  have x2 := hc2 0 _ rfl
  simp only [Nat.add_zero] at x1 x2
  have HF := Lib.hid hF.bel
  clear HT HO hR hR2 hO2 hF hk hb1 hb2 hc1 hc2
  simp only [List.length_cons, List.length_nil]
  go_wp2_with fail
  go_ret
  exact ⟨rfl, HF.out⟩
end Go.Proofs.Ytlibhboibkajgaa
