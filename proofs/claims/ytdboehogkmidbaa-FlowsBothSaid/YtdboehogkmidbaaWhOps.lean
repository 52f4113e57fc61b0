/- The alarms' methods on a wheel in memory: Len, Less, Swap. -/
import Derived.Test.YtdboehogkmidbaaWhSwapE
namespace Go.Proofs.Ytdboehogkmidbaa
open Go.RowKit
set_option linter.unusedVariables false
namespace Wh
variable {l : List Al}
theorem place_iff {k : Int} {p : Nat} (h : (l.map (·.k)).Nodup) : place l k = some p ↔ p < l.length ∧ (al l p).k = k := by
  constructor
  · exact place_some
  · rintro ⟨h1, rfl⟩
    exact place_at h h1
theorem place_sw {i j : Nat} {k : Int} (h : (l.map (·.k)).Nodup) (hi : i < l.length) (hj : j < l.length) :
    place (sw l i j) k = if k = (al l i).k then some j else if k = (al l j).k then some i else place l k := by
  have hd : ((sw l i j).map (·.k)).Nodup := Wok.perm h (sw_perm hi hj)
  apply Option.ext
  intro p
  rw [place_iff hd, sw_len, al_sw hi hj]
  by_cases h1 : k = (al l i).k
  · subst h1
    rw [if_pos rfl, Option.some.injEq]
    constructor
    · rintro ⟨hp, he⟩
      by_cases e : p = j
      · exact e.symm
      · rw [if_neg e] at he
        by_cases e2 : p = i
        · rw [if_pos e2] at he
          exact absurd (nodup_at h hj hi he) (fun q => e (by rw [e2, ← q]))
        · rw [if_neg e2] at he
          exact absurd (nodup_at h hp hi he) e2
    · rintro rfl
      exact ⟨hj, by rw [if_pos rfl]⟩
  · rw [if_neg h1]
    by_cases h2 : k = (al l j).k
    · subst h2
      rw [if_pos rfl, Option.some.injEq]
      have hij : i ≠ j := fun e => h1 (by rw [e])
      constructor
      · rintro ⟨hp, he⟩
        by_cases e : p = j
        · rw [if_pos e] at he
          exact absurd he.symm h1
        · rw [if_neg e] at he
          by_cases e2 : p = i
          · exact e2.symm
          · rw [if_neg e2] at he
            exact absurd (nodup_at h hp hj he) e
      · rintro rfl
        exact ⟨hi, by rw [if_neg hij, if_pos rfl]⟩
    · rw [if_neg h2, place_iff h]
      constructor
      · rintro ⟨hp, he⟩
        refine ⟨hp, ?_⟩
        by_cases e : p = j
        · rw [if_pos e] at he
          exact absurd he.symm h1
        · rw [if_neg e] at he
          by_cases e2 : p = i
          · rw [if_pos e2] at he
            exact absurd he.symm h2
          · rw [if_neg e2] at he
            exact he
      · rintro ⟨hp, he⟩
        refine ⟨hp, ?_⟩
        rw [if_neg (fun e => h2 (by rw [← he, e])), if_neg (fun e => h1 (by rw [← he, e]))]
        exact he
end Wh
theorem pl_sw {es : List Mi.E} {l : List Wh.Al} {i j : Nat} (h : (l.map (·.k)).Nodup) (hi : i < l.length) (hj : j < l.length) (hp : ∀ k, Mi.get es k = (Wh.place l k).map (fun i => (i : Int))) (k : Int) :
    Mi.get (Mi.setv (Mi.setv es (Wh.al l j).k i) (Wh.al l i).k j) k = (Wh.place (Wh.sw l i j) k).map (fun i => (i : Int)) := by
  rw [Mi.get_setv, Mi.get_setv, Mi.get_setv, Wh.place_sw h hi hj, hp, hp, hp, Wh.place_at h hi, Wh.place_at h hj]
  by_cases h1 : k = (Wh.al l i).k
  · rw [if_pos h1, if_pos h1]
    split <;> rfl
  · rw [if_neg h1, if_neg h1]
    by_cases h2 : k = (Wh.al l j).k
    · rw [if_pos h2, if_pos h2]; rfl
    · rw [if_neg h2, if_neg h2]
structure Step (w w' : World) (L L' : Loc) : Prop where
  gw : L'.gw = L.gw
  gm : L'.gm = L.gm
  gr : ∀ g, L'.gr = some g → L.gr = some g ∨ w.heap.size ≤ g
  keeps : Keeps L.own w w'
theorem Step.refl (w : World) (L : Loc) : Step w w L L := ⟨rfl, rfl, fun g h => Or.inl h, Keeps.refl _ _⟩
theorem Step.trans {w w' w'' : World} {L L' L'' : Loc} (h : Step w w' L L') (h' : Step w' w'' L' L'') : Step w w'' L L'' := by
  refine ⟨h'.gw.trans h.gw, h'.gm.trans h.gm, fun g hg => ?_, h.keeps.trans h'.keeps (fun k hk => ?_)⟩
  · rcases h'.gr g hg with h1 | h1
    · exact h.gr g h1
    · exact Or.inr (Nat.le_trans h.keeps.size h1)
  · rcases hk with h1 | h1 | h1
    · exact Or.inl (Or.inl (h1.trans h.gw))
    · exact Or.inl (Or.inr (Or.inl (h1.trans h.gm)))
    · rcases h.gr k h1 with h2 | h2
      · exact Or.inl (Or.inr (Or.inr h2))
      · exact Or.inr h2
/-- w' is w, but that the wheel at L holds l' and stands at now' -/
def Wgo (w : World) (L : Loc) (l' : List Wh.Al) (now' : Int) (w' : World) : Prop :=
  ∃ L' c' es' ck', WM w' L' c' es' ck' l' now' ∧ Step w w' L L'
theorem Wgo.then {w w1 w2 : World} {L L1 : Loc} {l : List Wh.Al} {now : Int} (h : Step w w1 L L1) (h' : Wgo w1 L1 l now w2) : Wgo w L l now w2 := by
  obtain ⟨L', c', es', ck', h1, h2⟩ := h'
  exact ⟨L', c', es', ck', h1, h.trans h2⟩
section
variable {w w' : World} {L : Loc} {c : Nat} {es : List Mi.E} {ck : Nat} {l : List Wh.Al} {now : Int}
theorem WM.wm (h : WM w L c es ck l now) : L.gw ≠ L.gm := fun e => by
  have h1 := h.box
  have h2 := h.map.blk
  unfold BlkV at h1
  rw [e, h2] at h1
  cases h1
theorem ARow.ne_map {gr g : Nat} {rest : List Value} (h : ARow w gr l rest) (hm : MapE w g es ck) : gr ≠ g := fun e => by
  have h1 := h.blk
  have h2 := hm.blk
  unfold BlkV at h1
  rw [e, h2] at h1
  cases h1
theorem ARow.ne_box {gr g : Nat} {rest vs : List Value} (h : ARow w gr l rest) (hb : BlkV w g 79 vs) : gr ≠ g := fun e => by
  have h1 := h.blk
  unfold BlkV at h1 hb
  rw [e, hb] at h1
  cases h1
theorem ARow.owns {gr c : Nat} {rest : List Value} (h : ARow w gr l rest) (h1 : l.length ≤ c) (h2 : c ≤ maxLen) (h3 : rest.length = c * 2 - l.length * 2) :
    w.ownsRow 0 86 2 (.slice (some ⟨gr, 0, none⟩) l.length c) l.length (acells l) := by
  refine ⟨acells_len l, Or.inr ⟨gr, c, (acells l ++ rest).toArray, rfl, Nat.zero_le _, h.blk, h1, h2, ?_, ?_⟩⟩
  · simp [acells_len, h3]; omega
  · rw [← acells_len l]; simp
theorem WM.cells (h : WM w L c es ck l now) : w.cell? ⟨L.gw, 0, none⟩ = some (.slice L.A l.length c) ∧ w.cell? ⟨L.gw, 1, none⟩ = some (.map (some L.gm)) ∧ w.cell? ⟨L.gw, 2, none⟩ = some (.int .i64 now) :=
  ⟨h.box.cell rfl, h.box.cell rfl, h.box.cell rfl⟩
theorem WM.below (h : WM w L c es ck l now) (hb : Below w.heap.size w w') : WM w' L c es ck l now :=
  ⟨h.box.below hb, own_below h.row hb, ⟨(hb.block _ h.map.lt).trans h.map.blk, h.map.ok⟩, h.dist, h.pl, h.sm⟩
theorem WM.stay (h : WM w L c es ck l now) (hb : Below w.heap.size w w') : Wgo w L l now w' :=
  ⟨L, c, es, ck, h.below hb, ⟨rfl, rfl, fun g hg => Or.inl hg, Keeps.of_below hb _⟩⟩
theorem WM.step_below (hb : Below w.heap.size w w') : Step w w' L L := ⟨rfl, rfl, fun g hg => Or.inl hg, Keeps.of_below hb _⟩
theorem WM.has (h : WM w L c es ck l now) {p : Nat} (hp : p < l.length) : ∃ v, Mi.get es (Wh.al l p).k = some v :=
  ⟨p, by rw [h.pl, Wh.place_at h.dist hp]; rfl⟩
/-- the wheel with another row of the same length in the same places -/
theorem WM.len_wm (h : WM w L c es ck l now) :
    Calls Try.prog 35 #[.pointer (some ⟨L.gw, 0, none⟩)] w fun e w' => e = .returned (.int .i64 l.length) ∧ w = w' :=
  alen_spec L.gw L.A l.length c w h.cells.1
theorem WM.less_wm (h : WM w L c es ck l now) {i j : Nat} (hi : i < l.length) (hj : j < l.length) :
    Calls Try.prog 61 #[.pointer (some ⟨L.gw, 0, none⟩), .int .i64 i, .int .i64 j] w fun e w' => e = .returned (.bool (decide (Wh.lt (Wh.al l i) (Wh.al l j)))) ∧ Below w.heap.size w w' := by
  obtain ⟨gr, rest, hg, hR, h1, h2, h3⟩ := h.arow (by omega)
  have h0 := h.cells.1
  have hA : L.A = some ⟨gr, 0, none⟩ := by unfold Loc.A; rw [hg]; rfl
  rw [hA] at h0
  have hs := h.sm
  obtain ⟨x0, x1⟩ := hR.cells hi
  obtain ⟨y0, y1⟩ := hR.cells hj
  exact aless_spec L.gw gr l.length c i j _ _ w h0 hi hj (by omega) h.box.lt hR.blk.lt x0 x1 y0 y1
theorem WM.swap_wm (h : WM w L c es ck l now) {i j : Nat} (hi : i < l.length) (hj : j < l.length) :
    Calls Try.prog 64 #[.pointer (some ⟨L.gw, 0, none⟩), .int .i64 i, .int .i64 j] w fun e w' => e = .returned (.tuple #[]) ∧ Wgo w L (Wh.sw l i j) now w' := by
  obtain ⟨gr, rest, hg, hR, h1, h2, h3⟩ := h.arow (by omega)
  obtain ⟨c0, c1, c2⟩ := h.cells
  have hA : L.A = some ⟨gr, 0, none⟩ := by unfold Loc.A; rw [hg]; rfl
  rw [hA] at c0
  have hs := h.sm
  have hrw := hR.ne_box h.box
  have hrm := hR.ne_map h.map
  have hwm := h.wm
  have hC : Calls Try.prog 64 #[.pointer (some ⟨L.gw, 0, none⟩), .int .i64 i, .int .i64 j] w (SwR L.gw gr L.gm l rest es ck i j w) := by
    by_cases hij : i = j
    · subst hij
      exact aswap_eq L.gw gr L.gm l.length c i l rest es ck w c0 c1 h.box.lt (Ne.symm hrw) hwm hrm hR h.map rfl hi (by omega) (fun p hp => h.has hp)
    · exact aswap_ne L.gw gr L.gm l.length c i j l rest es ck w c0 c1 h.box.lt (Ne.symm hrw) hwm hrm hR h.map rfl hi hj hij (by omega) (fun p hp => h.has hp)
  refine hC.mono ?_
  rintro e w' ⟨rfl, hR', hM', hK⟩
  have sl : (Wh.sw l i j).length = l.length := Wh.sw_len l i j
  refine ⟨rfl, L, c, _, _, ⟨?_, ?_, hM', Wh.Wok.perm h.dist (Wh.sw_perm hi hj), pl_sw h.dist hi hj h.pl, by rw [sl]; exact hs⟩, ⟨rfl, rfl, fun g hg => Or.inl hg, ?_⟩⟩
  · rw [sl]
    exact (hK.block _ h.box.lt (fun e => by rcases e with e | e; exact hrw e.symm; exact hwm e)).trans h.box
  · rw [hA]
    exact hR'.owns (by rw [sl]; exact h1) h2 (by rw [sl]; exact h3)
  · exact ⟨hK.os, hK.tape, hK.out, hK.size, fun k hk hn => hK.block k hk (fun e => hn (by
      rcases e with e | e
      · exact Or.inr (Or.inr (by rw [e]; exact hg))
      · exact Or.inr (Or.inl e)))⟩
end
end Go.Proofs.Ytdboehogkmidbaa
