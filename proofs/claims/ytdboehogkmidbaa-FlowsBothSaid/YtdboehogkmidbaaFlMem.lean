/- A store of flows in memory. No walk. -/
import Derived.Test.YtdboehogkmidbaaFlPlain
import Derived.Test.YtdboehogkmidbaaIdxDelW
import Derived.Test.YtdboehogkmidbaaWhFr
import Derived.Test.YtdboehogkmidbaaOrders
namespace Go.Proofs.Ytdboehogkmidbaa
open Go.RowKit
set_option linter.unusedVariables false
def Idx.Key.cells (k : Idx.Key) : List Value := [.int .i64 k.pr, .int .u32 k.sr, .int .i64 k.sp, .int .u32 k.ds, .int .i64 k.dp]
def Fl.F.cells (f : Fl.F) : List Value := [.int .i64 f.th.pr, .int .u32 f.th.sr, .int .i64 f.th.sp, .int .u32 f.th.ds, .int .i64 f.th.dp, .int .i64 f.bk.pr, .int .u32 f.bk.sr, .int .i64 f.bk.sp, .int .u32 f.bk.ds, .int .i64 f.bk.dp, .int .i64 f.un, .int .i64 f.no]
def Fl.scell (o : Option Fl.F) : List Value := .bool o.isSome :: (o.getD Fl.F.nil).cells
def Fl.scells (sl : Fl.Sl) : List Value := sl.flatMap Fl.scell
theorem Fl.scell_len (o : Option Fl.F) : (Fl.scell o).length = 13 := rfl
theorem Fl.scells_app (a b : Fl.Sl) : Fl.scells (a ++ b) = Fl.scells a ++ Fl.scells b := by simp [Fl.scells]
theorem Fl.scells_len (l : Fl.Sl) : (Fl.scells l).length = l.length * 13 := by
  induction l with
  | nil => rfl
  | cons c t ih =>
    simp only [Fl.scells, List.flatMap_cons, List.length_append, List.length_cons] at ih ⊢
    rw [ih, Fl.scell_len]; omega
theorem Fl.scells_get : ∀ (l : Fl.Sl) (k i : Nat) (v : Value), k < l.length → (Fl.scell (Fl.slot l k))[i]? = some v → (Fl.scells l)[k * 13 + i]? = some v := by
  intro l
  induction l with
  | nil => intro k i v h; simp at h
  | cons r t ih =>
    intro k i v hk hv
    have hc := Fl.scell_len r
    match k with
    | 0 =>
      have hi : i < 13 := by have := (List.getElem?_eq_some_iff.1 hv).1; rw [Fl.scell_len] at this; exact this
      simp only [Fl.scells, List.flatMap_cons]
      rw [List.getElem?_append_left (by rw [hc]; omega)]
      simpa [Fl.slot] using hv
    | k + 1 =>
      simp only [Fl.scells, List.flatMap_cons]
      rw [List.getElem?_append_right (by rw [hc]; omega), hc]
      have := ih k i v (by simpa using hk) (by simpa [Fl.slot] using hv)
      rw [show (k + 1) * 13 + i - 13 = k * 13 + i by omega]
      exact this
theorem Fl.scells_split {l : Fl.Sl} {p : Nat} (hp : p < l.length) : Fl.scells l = Fl.scells (l.take p) ++ Fl.scell (Fl.slot l p) ++ Fl.scells (l.drop (p + 1)) := by
  have e : l = l.take p ++ [l[p]] ++ l.drop (p + 1) := by simp
  conv => lhs; rw [e]
  rw [Fl.scells_app, Fl.scells_app, Fl.slot_get hp]
  simp [Fl.scells]
theorem Fl.scells_set {l : Fl.Sl} {p : Nat} (hp : p < l.length) (o : Option Fl.F) : Fl.scells (l.set p o) = Fl.scells (l.take p) ++ Fl.scell o ++ Fl.scells (l.drop (p + 1)) := by
  rw [List.set_eq_take_append_cons_drop, if_pos hp, Fl.scells_app]
  simp [Fl.scells]
/-- where a store's parts lie -/
structure FLoc where
  gs : Nat
  gl : Nat
  L : Loc
def FLoc.own (X : FLoc) (k : Nat) : Prop := k = X.gs ∨ k = X.gl ∨ X.L.own k
structure FMem (w : World) (X : FLoc) (sl : Fl.Sl) (At : Option Addr) (ct : Nat) (tb : List Idx.Cell) (c : Nat) (es : List Mi.E) (ck : Nat) (l : List Wh.Al) (now : Int) (many : Nat) : Prop where
  box : BlkV w X.gs 59 [.slice (some ⟨X.gl, 0, none⟩) sl.length sl.length, .slice At 1024 ct, .pointer (some ⟨X.L.gw, 0, none⟩), .int .i64 many]
  row : BlkV w X.gl 62 (Fl.scells sl)
  tab : TabR w At 1024 tb
  tty : ∀ a, At = some a → ∃ vs, BlkV w a.block 82 vs
  wh : WM w X.L c es ck l now
  kwf : ∀ i f, Fl.slot sl i = some f → f.th.wf ∧ f.bk.wf
  sm : sl.length ≤ 256
/-- the store at X in w: the slots sl, the time now -/
def FM (w : World) (X : FLoc) (sl : Fl.Sl) (now : Int) : Prop :=
  ∃ At ct tb c es ck l, FMem w X sl At ct tb c es ck l now (Fl.count sl) ∧ Fl.Inv sl tb l now
/-- of w' only the store's own blocks are others than of w, and new ones -/
structure FStep (w w' : World) (X X' : FLoc) : Prop where
  gs : X'.gs = X.gs
  gl : X'.gl = X.gl
  gw : X'.L.gw = X.L.gw
  gm : X'.L.gm = X.L.gm
  gr : ∀ g, X'.L.gr = some g → X.L.gr = some g ∨ w.heap.size ≤ g
  keeps : Keeps X.own w w'
theorem FStep.refl (w : World) (X : FLoc) : FStep w w X X := ⟨rfl, rfl, rfl, rfl, fun g h => Or.inl h, Keeps.refl _ _⟩
theorem FStep.own {w w' : World} {X X' : FLoc} (h : FStep w w' X X') {k : Nat} (hk : X'.own k) : X.own k ∨ w.heap.size ≤ k := by
  rcases hk with e | e | e | e | e
  · exact Or.inl (Or.inl (e.trans h.gs))
  · exact Or.inl (Or.inr (Or.inl (e.trans h.gl)))
  · exact Or.inl (Or.inr (Or.inr (Or.inl (e.trans h.gw))))
  · exact Or.inl (Or.inr (Or.inr (Or.inr (Or.inl (e.trans h.gm)))))
  · rcases h.gr k e with q | q
    · exact Or.inl (Or.inr (Or.inr (Or.inr (Or.inr q))))
    · exact Or.inr q
theorem FStep.trans {w w' w'' : World} {X X' X'' : FLoc} (h : FStep w w' X X') (h' : FStep w' w'' X' X'') : FStep w w'' X X'' := by
  refine ⟨h'.gs.trans h.gs, h'.gl.trans h.gl, h'.gw.trans h.gw, h'.gm.trans h.gm, fun g hg => ?_, h.keeps.trans h'.keeps (fun k hk => h.own hk)⟩
  rcases h'.gr g hg with h1 | h1
  · exact h.gr g h1
  · exact Or.inr (Nat.le_trans h.keeps.size h1)
theorem FStep.of_below {w w' : World} (X : FLoc) (hb : Below w.heap.size w w') : FStep w w' X X := ⟨rfl, rfl, rfl, rfl, fun g hg => Or.inl hg, Keeps.of_below hb _⟩
theorem FStep.of_only {g : Nat} {w w' : World} (X : FLoc) (ho : OnlyB g w w') (hg : X.own g) : FStep w w' X X := ⟨rfl, rfl, rfl, rfl, fun g hg => Or.inl hg, Keeps.of_only ho _ hg⟩
theorem FStep.of_wheel {w w' : World} {X : FLoc} {L' : Loc} (h : Step w w' X.L L') : FStep w w' X { X with L := L' } :=
  ⟨rfl, rfl, h.gw, h.gm, h.gr, ⟨h.keeps.os, h.keeps.tape, h.keeps.out, h.keeps.size, fun k hk hn => h.keeps.block k hk (fun ho => hn (Or.inr (Or.inr ho)))⟩⟩
/-- w' is w, but that the store at X holds sl', stands at now' -/
def Fgo (w : World) (X : FLoc) (sl' : Fl.Sl) (now' : Int) (w' : World) : Prop := ∃ X', FM w' X' sl' now' ∧ FStep w w' X X'
section
variable {w w' : World} {X : FLoc} {sl : Fl.Sl} {At : Option Addr} {ct : Nat} {tb : List Idx.Cell} {c : Nat} {es : List Mi.E} {ck : Nat} {l : List Wh.Al} {now : Int} {many : Nat}
theorem FMem.below (h : FMem w X sl At ct tb c es ck l now many) (hb : Below w.heap.size w w') : FMem w' X sl At ct tb c es ck l now many :=
  ⟨h.box.below hb, h.row.below hb, h.tab.below hb, fun a ha => by obtain ⟨vs, hv⟩ := h.tty a ha; exact ⟨vs, hv.below hb⟩, h.wh.below hb, h.kwf, h.sm⟩
/-- a block of another type is none of the store's own -/
theorem FMem.at_lt (h : FMem w X sl At ct tb c es ck l now many) {g : Nat} {T : TypeId} {vs : List Value} (hN : BlkV w g T vs) (h1 : T ≠ 59) (h2 : T ≠ 62) (h3 : T ≠ 79) (h4 : T ≠ 86) : g ≠ X.gs ∧ g ≠ X.gl ∧ ¬ X.L.own g := by
  refine ⟨fun e => ?_, fun e => ?_, h.wh.not_own hN h3 h4⟩
  · subst e
    have hb := h.box
    unfold BlkV at hN hb
    rw [hN] at hb
    injection hb with hb
    injection hb with _ hb
    exact h1 hb
  · subst e
    have hb := h.row
    unfold BlkV at hN hb
    rw [hN] at hb
    injection hb with hb
    injection hb with _ hb
    exact h2 hb
theorem FMem.not_own (h : FMem w X sl At ct tb c es ck l now many) {g : Nat} {T : TypeId} {vs : List Value} (hN : BlkV w g T vs) (h1 : T ≠ 59) (h2 : T ≠ 62) (h3 : T ≠ 79) (h4 : T ≠ 86) : ¬ X.own g := by
  obtain ⟨a, b, c⟩ := h.at_lt hN h1 h2 h3 h4
  rintro (e | e | e)
  · exact a e
  · exact b e
  · exact c e
theorem FMem.far (h : FMem w X sl At ct tb c es ck l now many) : ∀ a, At = some a → a.block ≠ X.gs ∧ a.block ≠ X.gl ∧ ¬ X.L.own a.block := fun a ha => by
  obtain ⟨vs, hv⟩ := h.tty a ha
  exact h.at_lt hv (by decide) (by decide) (by decide) (by decide)
theorem FM.below (h : FM w X sl now) (hb : Below w.heap.size w w') : FM w' X sl now := by
  obtain ⟨At, ct, tb, c, es, ck, l, h1, h2⟩ := h
  exact ⟨At, ct, tb, c, es, ck, l, h1.below hb, h2⟩
theorem FM.stay (h : FM w X sl now) (hb : Below w.heap.size w w') : Fgo w X sl now w' := ⟨X, h.below hb, FStep.of_below X hb⟩
theorem FMem.cells (h : FMem w X sl At ct tb c es ck l now many) : w.cell? ⟨X.gs, 0, none⟩ = some (.slice (some ⟨X.gl, 0, none⟩) sl.length sl.length) ∧ w.cell? ⟨X.gs, 1, none⟩ = some (.slice At 1024 ct) ∧ w.cell? ⟨X.gs, 2, none⟩ = some (.pointer (some ⟨X.L.gw, 0, none⟩)) ∧ w.cell? ⟨X.gs, 3, none⟩ = some (.int .i64 many) :=
  ⟨h.box.cell rfl, h.box.cell rfl, h.box.cell rfl, h.box.cell rfl⟩
theorem FMem.slot (h : FMem w X sl At ct tb c es ck l now many) {p : Nat} (hp : p < sl.length) {i : Nat} {v : Value} (hv : (Fl.scell (Fl.slot sl p))[i]? = some v) : w.cell? ⟨X.gl, p * 13 + i, none⟩ = some v :=
  h.row.cell (Fl.scells_get sl p i v hp hv)
theorem FMem.lt (h : FMem w X sl At ct tb c es ck l now many) {k : Nat} (hk : X.own k) : k < w.heap.size := by
  rcases hk with e | e | e
  · rw [e]; exact h.box.lt
  · rw [e]; exact h.row.lt
  · exact h.wh.own_lt e
theorem FMem.apart (h : FMem w X sl At ct tb c es ck l now many) : X.gs ≠ X.gl ∧ ¬ X.L.own X.gs ∧ ¬ X.L.own X.gl := by
  refine ⟨fun e => ?_, h.wh.not_own h.box (by decide) (by decide), h.wh.not_own h.row (by decide) (by decide)⟩
  have h1 := h.box
  have h2 := h.row
  unfold BlkV at h1 h2
  rw [e, h2] at h1
  injection h1 with h1
  injection h1 with _ h1
  exact absurd h1 (by decide)
/-- a table that a wheel's or the slots' stores leave alone -/
theorem TabR.keep {n : Nat} (h : TabR w At n tb) (hk : ∀ a, At = some a → a.block < w.heap.size → w'.heap[a.block]? = w.heap[a.block]?) (hs : w.heap.size ≤ w'.heap.size) : TabR w' At n tb := by
  refine ⟨h.len, h.wf, h.rd.1, fun hn => ?_⟩
  obtain ⟨b, off, e, hb, hc⟩ := h.rd.2 hn
  refine ⟨b, off, e, Nat.lt_of_lt_of_le hb hs, fun j u hu => ?_⟩
  have h1 := hc j u hu
  have h2 := hk ⟨b, off, none⟩ e hb
  have h3 : w'.cell? ⟨b, off + j, none⟩ = w.cell? ⟨b, off + j, none⟩ := by
    unfold World.cell?
    simp only at h2 ⊢
    rw [h2]
  exact h3.trans h1
theorem FMem.keep (h : FMem w X sl At ct tb c es ck l now many) (hk : ∀ k, k < w.heap.size → (X.own k ∨ ∃ a, At = some a ∧ a.block = k) → w'.heap[k]? = w.heap[k]?) (hs : w.heap.size ≤ w'.heap.size) : FMem w' X sl At ct tb c es ck l now many :=
  ⟨(hk _ h.box.lt (Or.inl (Or.inl rfl))).trans h.box, (hk _ h.row.lt (Or.inl (Or.inr (Or.inl rfl)))).trans h.row, h.tab.keep (fun a ha hl => hk _ hl (Or.inr ⟨a, ha, rfl⟩)) hs,
    fun a ha => (by obtain ⟨vs, hv⟩ := h.tty a ha; exact ⟨vs, (hk _ hv.lt (Or.inr ⟨a, ha, rfl⟩)).trans hv⟩),
    h.wh.keep (fun k ho hl => hk k hl (Or.inl (Or.inr (Or.inr ho)))), h.kwf, h.sm⟩
/-- the slot of a number is stored anew -/
theorem FMem.put (h : FMem w X sl At ct tb c es ck l now many) {p : Nat} (hp : p < sl.length) (o : Option Fl.F) (ho : ∀ f, o = some f → f.th.wf ∧ f.bk.wf) :
    FMem (w.setCells X.gl (p * 13) (Fl.scell o)) X (sl.set p o) At ct tb c es ck l now many ∧ OnlyB X.gl w (w.setCells X.gl (p * 13) (Fl.scell o)) := by
  have hO := OnlyB.sets w X.gl (p * 13) (Fl.scell o)
  obtain ⟨a1, a2, a3⟩ := h.apart
  have hb := h.row
  rw [Fl.scells_split hp, List.append_assoc] at hb
  have hr := setCells_mid (Fl.scell o) (Fl.scells (sl.take p)) (Fl.scell (Fl.slot sl p)) (Fl.scells (sl.drop (p + 1))) w (by simpa using hb) rfl
  rw [Fl.scells_len, List.length_take, Nat.min_eq_left (by omega)] at hr
  refine ⟨⟨?_, ?_, ?_, fun a ha => (by obtain ⟨vs, hv⟩ := h.tty a ha; exact ⟨vs, hv.only hO (h.far a ha).2.1⟩), ?_, fun i f hf => ?_, by simpa using h.sm⟩, hO⟩
  · rw [List.length_set]; exact h.box.only hO a1
  · rw [Fl.scells_set hp]; exact hr
  · exact h.tab.keep (fun a ha hl => hO.block _ (h.far a ha).2.1) (by rw [hO.size]; exact Nat.le_refl _)
  · exact h.wh.keep (fun k ho hl => hO.block _ (fun e => a3 (e ▸ ho)))
  · rw [Fl.slot_set hp] at hf
    by_cases e : i = p
    · rw [if_pos e] at hf; exact ho f hf
    · rw [if_neg e] at hf; exact h.kwf i f hf
/-- the box is stored anew -/
theorem FMem.setbox {At' : Option Addr} {ct' : Nat} {tb' : List Idx.Cell} {many' : Nat} (h : FMem w X sl At ct tb c es ck l now many) (ho : OnlyB X.gs w w')
    (hb : BlkV w' X.gs 59 [.slice (some ⟨X.gl, 0, none⟩) sl.length sl.length, .slice At' 1024 ct', .pointer (some ⟨X.L.gw, 0, none⟩), .int .i64 many'])
    (ht : TabR w At' 1024 tb') (hty : ∀ a, At' = some a → ∃ vs, BlkV w a.block 82 vs) : FMem w' X sl At' ct' tb' c es ck l now many' := by
  obtain ⟨a1, a2, a3⟩ := h.apart
  have hf : ∀ a, At' = some a → a.block ≠ X.gs := fun a ha => by
    obtain ⟨vs, hv⟩ := hty a ha
    exact (h.at_lt hv (by decide) (by decide) (by decide) (by decide)).1
  exact ⟨hb, h.row.only ho a1.symm, ht.keep (fun a ha hl => ho.block _ (hf a ha)) (by rw [ho.size]; exact Nat.le_refl _), fun a ha => (by obtain ⟨vs, hv⟩ := hty a ha; exact ⟨vs, hv.only ho (hf a ha)⟩), h.wh.keep (fun k hk hl => ho.block _ (fun e => a2 (e ▸ hk))), h.kwf, h.sm⟩
/-- the wheel has gone on -/
theorem FMem.wheel {l' : List Wh.Al} {now' : Int} (h : FMem w X sl At ct tb c es ck l now many) (hg : Wgo w X.L l' now' w') :
    ∃ L' c' es' ck', FMem w' { X with L := L' } sl At ct tb c' es' ck' l' now' many ∧ FStep w w' X { X with L := L' } := by
  obtain ⟨L', c', es', ck', hW, hS⟩ := hg
  obtain ⟨a1, a2, a3⟩ := h.apart
  refine ⟨L', c', es', ck', ⟨?_, (hS.keeps.block _ h.row.lt a3).trans h.row, h.tab.keep (fun a ha hl => hS.keeps.block _ hl (h.far a ha).2.2) hS.keeps.size, fun a ha => (by obtain ⟨vs, hv⟩ := h.tty a ha; exact ⟨vs, (hS.keeps.block _ hv.lt (h.far a ha).2.2).trans hv⟩), hW, h.kwf, h.sm⟩, FStep.of_wheel hS⟩
  have := (hS.keeps.block _ h.box.lt a2).trans h.box
  rw [← hS.gw] at this
  exact this
/-- what a store's calls leave alone: blocks and rows of other types -/
structure FFr (w w' : World) : Prop where
  blk : ∀ g T vs, BlkV w g T vs → T ≠ 59 → T ≠ 62 → T ≠ 79 → T ≠ 86 → BlkV w' g T vs
  row : ∀ b e sz v n xs, w.ownsRow b e sz v n xs → e ≠ 59 → e ≠ 62 → e ≠ 79 → e ≠ 86 → w'.ownsRow b e sz v n xs
theorem FStep.fr {X' : FLoc} (h : FMem w X sl At ct tb c es ck l now many) (hS : FStep w w' X X') : FFr w w' := by
  have hb : ∀ g T vs, BlkV w g T vs → T ≠ 59 → T ≠ 62 → T ≠ 79 → T ≠ 86 → BlkV w' g T vs := fun g T vs hB h1 h2 h3 h4 =>
    (hS.keeps.block g hB.lt (h.not_own hB h1 h2 h3 h4)).trans hB
  refine ⟨hb, fun b e sz v n xs ho h1 h2 h3 h4 => own_block ho (fun g hg hl => ?_)⟩
  rcases ho.2 with ⟨rfl, _⟩ | ⟨g', cap, cur, rfl, _, hg', _⟩
  · cases hg
  · have : g' = g := by injection hg
    subst this
    have hB : BlkV w g' e cur.toList := by unfold BlkV; simpa using hg'
    exact (hb g' e _ hB h1 h2 h3 h4).trans hB.symm
/-- a row of the call's own beside the store grows -/
theorem FMem.grown {b n sz : Nat} {e : TypeId} {v : Value} {xs : List Value} (h : FMem w X sl At ct tb c es ck l now many) (ho : w.ownsRow b e sz v n xs) (hg : w.grownBy w' v.ownBlock)
    (h1 : e ≠ 59) (h2 : e ≠ 62) (h3 : e ≠ 79) (h4 : e ≠ 86) (h5 : e ≠ 82) : FMem w' X sl At ct tb c es ck l now many := by
  refine h.keep (fun k hk hx => hg.block k hk (fun e1 => ?_)) hg.size
  rcases ho.2 with ⟨rfl, _⟩ | ⟨g', cap, cur, rfl, _, hg', _⟩
  · cases e1
  · have : g' = k := by
      have e2 : some g' = some k := e1.symm
      injection e2
    subst this
    have hB : BlkV w g' e cur.toList := by unfold BlkV; simpa using hg'
    rcases hx with hx | ⟨a, ha, hx⟩
    · exact h.not_own hB h1 h2 h3 h4 hx
    · obtain ⟨vs, hv⟩ := h.tty a ha
      rw [hx] at hv
      unfold BlkV at hv hB
      rw [hB] at hv
      injection hv with hv
      injection hv with _ hv
      exact h5 hv
end
end Go.Proofs.Ytdboehogkmidbaa
