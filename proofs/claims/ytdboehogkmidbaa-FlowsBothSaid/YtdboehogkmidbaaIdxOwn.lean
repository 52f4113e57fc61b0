/- Tables of the call's own: a block known whole; stores of whole places. No walk. -/
import Derived.Test.YtdboehogkmidbaaIdxTab
import Derived.Test.YtdboehogkmidbaaBlkOps
import Derived.Test.YtdboehogkmidbaaBel
namespace Go.Proofs.Ytdboehogkmidbaa
open Go.RowKit
set_option linter.unusedVariables false
theorem tcells_app (a b : List Idx.Cell) : tcells (a ++ b) = tcells a ++ tcells b := by simp [tcells]
theorem tcells_split {l : List Idx.Cell} {p : Nat} (hp : p < l.length) : tcells l = tcells (l.take p) ++ (Idx.at' l p).cells ++ tcells (l.drop (p + 1)) := by
  have e : l = l.take p ++ [l[p]] ++ l.drop (p + 1) := by simp
  conv => lhs; rw [e]
  rw [tcells_app, tcells_app, Idx.at_lt hp]
  simp [tcells]
theorem tcells_set {l : List Idx.Cell} {p : Nat} (hp : p < l.length) (c : Idx.Cell) : tcells (l.set p c) = tcells (l.take p) ++ c.cells ++ tcells (l.drop (p + 1)) := by
  rw [List.set_eq_take_append_cons_drop, if_pos hp, tcells_app]
  simp [tcells]
theorem cells_len (c : Idx.Cell) : c.cells.length = 7 := rfl
section
variable {w w' : World} {g : Nat} {T : TypeId}
/-- a table of the call's own, at the head of the block g -/
structure TabO (w : World) (g n : Nat) (l : List Idx.Cell) (rest : List Value) : Prop where
  len : l.length = n
  wf : ∀ c ∈ l, c.k.wf
  blk : BlkV w g 82 (tcells l ++ rest)
theorem TabO.below {n : Nat} {l : List Idx.Cell} {rest : List Value} (h : TabO w g n l rest) (hb : Below w.heap.size w w') : TabO w' g n l rest := ⟨h.len, h.wf, h.blk.below hb⟩
theorem TabO.rd {n : Nat} {l : List Idx.Cell} {rest : List Value} (h : TabO w g n l rest) : TabR w (some ⟨g, 0, none⟩) n l := by
  refine ⟨h.len, h.wf, by rw [tcells_len, h.len], fun _ => ⟨g, 0, rfl, h.blk.lt, fun j u hu => ?_⟩⟩
  rw [Nat.zero_add]
  refine h.blk.cell ?_
  rw [List.getElem?_append_left]
  · exact hu
  · exact (List.getElem?_eq_some_iff.1 hu).1
theorem TabO.there {n : Nat} {l : List Idx.Cell} {rest : List Value} (h : TabO w g n l rest) {p : Nat} (hp : p < n) : w.there g (p * 7) 7 := fun j hj => by
  refine ⟨?_, h.blk.unfrozen _⟩
  have hl : p * 7 + j < (tcells l ++ rest).length := by rw [List.length_append, tcells_len, h.len]; omega
  rw [h.blk.cell (List.getElem?_eq_getElem hl)]
  rfl
/-- what the walk's own store wants of the place p -/
theorem TabO.facts {n : Nat} {l : List Idx.Cell} {rest : List Value} (h : TabO w g n l rest) {p : Nat} (hp : p < n) :
    (w.frozen? ⟨g, p * 7, none⟩ = false ∧ w.frozen? ⟨g, p * 7 + 1, none⟩ = false ∧ w.frozen? ⟨g, p * 7 + 2, none⟩ = false ∧ w.frozen? ⟨g, p * 7 + 3, none⟩ = false ∧ w.frozen? ⟨g, p * 7 + 4, none⟩ = false ∧ w.frozen? ⟨g, p * 7 + 5, none⟩ = false ∧ w.frozen? ⟨g, p * 7 + 6, none⟩ = false) ∧
    w.cell? ⟨g, p * 7, none⟩ = some (.bool (Idx.at' l p).u) ∧ w.cell? ⟨g, p * 7 + 1, none⟩ = some (.int .i64 (Idx.at' l p).k.pr) ∧ w.cell? ⟨g, p * 7 + 2, none⟩ = some (.int .u32 (Idx.at' l p).k.sr) ∧ w.cell? ⟨g, p * 7 + 3, none⟩ = some (.int .i64 (Idx.at' l p).k.sp) ∧
    w.cell? ⟨g, p * 7 + 4, none⟩ = some (.int .u32 (Idx.at' l p).k.ds) ∧ w.cell? ⟨g, p * 7 + 5, none⟩ = some (.int .i64 (Idx.at' l p).k.dp) ∧ w.cell? ⟨g, p * 7 + 6, none⟩ = some (.int .i64 (Idx.at' l p).n) := by
  refine ⟨⟨h.blk.unfrozen _, h.blk.unfrozen _, h.blk.unfrozen _, h.blk.unfrozen _, h.blk.unfrozen _, h.blk.unfrozen _, h.blk.unfrozen _⟩, ?_⟩
  obtain ⟨b, off, e, _, c0, c1, c2, c3, c4, c5, c6⟩ := h.rd.seven hp
  injection e with e
  injection e with e1 e2
  subst e1 e2
  simp only [Nat.zero_add] at c0 c1 c2 c3 c4 c5 c6
  exact ⟨c0, c1, c2, c3, c4, c5, c6⟩
theorem TabO.store {n : Nat} {l : List Idx.Cell} {rest : List Value} (h : TabO w g n l rest) {p : Nat} (hp : p < n) (c : Idx.Cell) (hc : c.k.wf) :
    TabO (w.setCells g (p * 7) c.cells) g n (l.set p c) rest ∧ OnlyB g w (w.setCells g (p * 7) c.cells) := by
  have hpl : p < l.length := by rw [h.len]; exact hp
  refine ⟨⟨by simp [h.len], ?_, ?_⟩, OnlyB.sets w g (p * 7) c.cells⟩
  · intro x hx
    rcases List.mem_or_eq_of_mem_set hx with h1 | h1
    · exact h.wf x h1
    · rw [h1]; exact hc
  · have hb := h.blk
    rw [tcells_split hpl, List.append_assoc] at hb
    have := setCells_mid c.cells (tcells (l.take p)) (Idx.at' l p).cells (tcells (l.drop (p + 1)) ++ rest) w (by simpa using hb) rfl
    rw [tcells_len, List.length_take, Nat.min_eq_left (by omega)] at this
    rw [tcells_set hpl]
    simpa using this
theorem TabO.of_own {base n c : Nat} {A : Option Addr} {l : List Idx.Cell} (h : w.ownsRow base 82 7 (.slice A n c) n (tcells l)) (hn : 0 < n) (hl : l.length = n) (hwf : ∀ c ∈ l, c.k.wf) :
    ∃ g rest, A = some ⟨g, 0, none⟩ ∧ base ≤ g ∧ TabO w g n l rest := by
  rcases h.2 with ⟨hv, h0⟩ | ⟨g, cap, cur, hv, hb, hg, h1, h2, h3, h4⟩
  · omega
  · injection hv with hA
    refine ⟨g, cur.toList.drop (n * 7), hA, hb, hl, hwf, ?_⟩
    unfold BlkV
    rw [← h4, List.take_append_drop]
    simpa using hg
end
end Go.Proofs.Ytdboehogkmidbaa
