/- A wheel in memory. No walk. -/
import Derived.Test.YtdboehogkmidbaaMapInt
import Derived.Test.YtdboehogkmidbaaBel
import Derived.Test.YtdboehogkmidbaaWheelPlain
import Derived.Test.YtdboehogkmidbaaChecked
import Derived.Test.YtdboehogkmidbaaOwn
namespace Go.Proofs.Ytdboehogkmidbaa
open Go.RowKit
set_option linter.unusedVariables false
def Wh.Al.cells (x : Wh.Al) : List Value := [.int .i64 x.k, .int .i64 x.t]
def acells (l : List Wh.Al) : List Value := l.flatMap Wh.Al.cells
theorem acells_app (a b : List Wh.Al) : acells (a ++ b) = acells a ++ acells b := by simp [acells]
theorem acells_len (l : List Wh.Al) : (acells l).length = l.length * 2 := by
  induction l with
  | nil => rfl
  | cons c t ih =>
    simp only [acells, List.flatMap_cons, List.length_append, List.length_cons] at ih ⊢
    rw [ih]
    simp [Wh.Al.cells]; omega
theorem acells_get : ∀ (l : List Wh.Al) (k i : Nat) (v : Value), k < l.length → (Wh.al l k).cells[i]? = some v → (acells l)[k * 2 + i]? = some v := by
  intro l
  induction l with
  | nil => intro k i v h; simp at h
  | cons r t ih =>
    intro k i v hk hv
    have hc : r.cells.length = 2 := rfl
    match k with
    | 0 =>
      have hi : i < 2 := (List.getElem?_eq_some_iff.1 hv).1
      simp only [acells, List.flatMap_cons]
      rw [List.getElem?_append_left (by rw [hc]; omega)]
      simpa [Wh.al] using hv
    | k + 1 =>
      simp only [acells, List.flatMap_cons]
      rw [List.getElem?_append_right (by rw [hc]; omega), hc]
      have := ih k i v (by simpa using hk) (by simpa [Wh.al] using hv)
      rw [show (k + 1) * 2 + i - 2 = k * 2 + i by omega]
      exact this
theorem acells_split {l : List Wh.Al} {p : Nat} (hp : p < l.length) : acells l = acells (l.take p) ++ (Wh.al l p).cells ++ acells (l.drop (p + 1)) := by
  have e : l = l.take p ++ [l[p]] ++ l.drop (p + 1) := by simp
  conv => lhs; rw [e]
  rw [acells_app, acells_app, Wh.al_lt hp]
  simp [acells]
theorem acells_set {l : List Wh.Al} {p : Nat} (hp : p < l.length) (c : Wh.Al) : acells (l.set p c) = acells (l.take p) ++ c.cells ++ acells (l.drop (p + 1)) := by
  rw [List.set_eq_take_append_cons_drop, if_pos hp, acells_app]
  simp [acells]
/-- the alarms' row, at the head of the block gr -/
structure ARow (w : World) (gr : Nat) (l : List Wh.Al) (rest : List Value) : Prop where
  blk : BlkV w gr 86 (acells l ++ rest)
theorem ARow.cells {w : World} {gr : Nat} {l : List Wh.Al} {rest : List Value} (h : ARow w gr l rest) {p : Nat} (hp : p < l.length) :
    w.cell? ⟨gr, p * 2, none⟩ = some (.int .i64 (Wh.al l p).k) ∧ w.cell? ⟨gr, p * 2 + 1, none⟩ = some (.int .i64 (Wh.al l p).t) := by
  have hg : ∀ i v, (Wh.al l p).cells[i]? = some v → w.cell? ⟨gr, p * 2 + i, none⟩ = some v := fun i v hv => by
    refine h.blk.cell ?_
    have := acells_get l p i v hp hv
    rw [List.getElem?_append_left (List.getElem?_eq_some_iff.1 this).1]
    exact this
  exact ⟨hg 0 _ rfl, hg 1 _ rfl⟩
theorem ARow.there {w : World} {gr : Nat} {l : List Wh.Al} {rest : List Value} (h : ARow w gr l rest) {p : Nat} (hp : p < l.length) : w.there gr (p * 2) 2 := fun j hj => by
  refine ⟨?_, h.blk.unfrozen _⟩
  have hl : p * 2 + j < (acells l ++ rest).length := by rw [List.length_append, acells_len]; omega
  rw [h.blk.cell (List.getElem?_eq_getElem hl)]
  rfl
theorem ARow.store {w : World} {gr : Nat} {l : List Wh.Al} {rest : List Value} (h : ARow w gr l rest) {p : Nat} (hp : p < l.length) (c : Wh.Al) :
    ARow (w.setCells gr (p * 2) c.cells) gr (l.set p c) rest ∧ OnlyB gr w (w.setCells gr (p * 2) c.cells) := by
  refine ⟨⟨?_⟩, OnlyB.sets w gr (p * 2) c.cells⟩
  have hb := h.blk
  rw [acells_split hp, List.append_assoc] at hb
  have := setCells_mid c.cells (acells (l.take p)) (Wh.al l p).cells (acells (l.drop (p + 1)) ++ rest) w (by simpa using hb) rfl
  rw [acells_len, List.length_take, Nat.min_eq_left (by omega)] at this
  rw [acells_set hp]
  simpa using this
/-- where a wheel's parts lie: its box, its row (if there is one), its map -/
structure Loc where
  gw : Nat
  gr : Option Nat
  gm : Nat
def Loc.A (L : Loc) : Option Addr := L.gr.map fun g => ⟨g, 0, none⟩
/-- the blocks that are the wheel's own -/
def Loc.own (L : Loc) (k : Nat) : Prop := k = L.gw ∨ k = L.gm ∨ L.gr = some k
structure WM (w : World) (L : Loc) (c : Nat) (es : List Mi.E) (ck : Nat) (l : List Wh.Al) (now : Int) : Prop where
  box : BlkV w L.gw 79 [.slice L.A l.length c, .map (some L.gm), .int .i64 now]
  row : w.ownsRow 0 86 2 (.slice L.A l.length c) l.length (acells l)
  map : MapE w L.gm es ck
  dist : (l.map (·.k)).Nodup
  pl : ∀ k, Mi.get es k = (Wh.place l k).map (fun i => (i : Int))
  sm : l.length ≤ 256
theorem WM.arow {w : World} {L : Loc} {c : Nat} {es : List Mi.E} {ck : Nat} {l : List Wh.Al} {now : Int} (h : WM w L c es ck l now) (h0 : 0 < l.length) :
    ∃ gr rest, L.gr = some gr ∧ ARow w gr l rest ∧ l.length ≤ c ∧ c ≤ maxLen ∧ rest.length = c * 2 - l.length * 2 := by
  rcases h.row.2 with ⟨hv, h1⟩ | ⟨g, cap, cur, hv, hb, hg, h1, h2, h3, h4⟩
  · omega
  · injection hv with hA _ hc
    subst hc
    unfold Loc.A at hA
    cases hgr : L.gr with
    | none => rw [hgr] at hA; cases hA
    | some gr =>
      rw [hgr] at hA
      simp only [Option.map_some, Option.some.injEq, Addr.mk.injEq, and_true] at hA
      subst hA
      refine ⟨gr, cur.toList.drop (l.length * 2), rfl, ⟨?_⟩, h1, h2, by rw [List.length_drop]; simp [h3]⟩
      unfold BlkV
      rw [← h4, List.take_append_drop]
      simpa using hg
/-- of w' only the wheel's own blocks are others than of w, and new ones -/
structure Keeps (S : Nat → Prop) (w w' : World) : Prop where
  os : w'.os = w.os
  tape : w'.tape = w.tape
  out : w'.output = w.output
  size : w.heap.size ≤ w'.heap.size
  block : ∀ k, k < w.heap.size → ¬ S k → w'.heap[k]? = w.heap[k]?
theorem Keeps.refl (S : Nat → Prop) (w : World) : Keeps S w w := ⟨rfl, rfl, rfl, Nat.le_refl _, fun _ _ _ => rfl⟩
theorem Keeps.trans {S S' : Nat → Prop} {w w' w'' : World} (h : Keeps S w w') (h' : Keeps S' w' w'') (hS : ∀ k, S' k → S k ∨ w.heap.size ≤ k) : Keeps S w w'' :=
  ⟨h'.os.trans h.os, h'.tape.trans h.tape, h'.out.trans h.out, Nat.le_trans h.size h'.size, fun k hk hn => (h'.block k (Nat.lt_of_lt_of_le hk h.size) (fun hs => by
    rcases hS k hs with h1 | h1
    · exact hn h1
    · omega)).trans (h.block k hk hn)⟩
theorem Keeps.below {S : Nat → Prop} {B : Nat} {a w w' : World} (h : Keeps S w w') (hb : Below B a w) (hS : ∀ k, S k → B ≤ k) (hB : B ≤ w.heap.size) : Below B a w' := by
  refine ⟨h.os.trans hb.os, h.tape.trans hb.tape, h.out.trans hb.output, Nat.le_trans hb.size h.size, fun k hk => (h.block k (by omega) (fun hs => ?_)).trans (hb.block k hk)⟩
  have := hS k hs
  omega
theorem Keeps.of_only {g : Nat} {w w' : World} (h : OnlyB g w w') (S : Nat → Prop) (hg : S g) : Keeps S w w' := by
  have hb := h.bel (Nat.zero_le g) (Below.refl 0 w)
  exact ⟨h.os, hb.tape, h.out, by rw [h.size]; exact Nat.le_refl _, fun k _ hn => h.block k (fun e => hn (e ▸ hg))⟩
theorem Keeps.of_below {w w' : World} (h : Below w.heap.size w w') (S : Nat → Prop) : Keeps S w w' := ⟨h.os, h.tape, h.output, h.size, fun k hk _ => h.block k hk⟩
end Go.Proofs.Ytdboehogkmidbaa
