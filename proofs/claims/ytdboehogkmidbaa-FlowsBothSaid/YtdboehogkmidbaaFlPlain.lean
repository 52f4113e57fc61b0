/- The store of flows over lists: slots, a table of both tuples, what is due. No program in sight. -/
import Derived.Test.YtdboehogkmidbaaIdxPlain
import Derived.Test.YtdboehogkmidbaaWhFr
namespace Go.Proofs.Ytdboehogkmidbaa
set_option linter.unusedVariables false
namespace Fl
open Idx (Key Cell)
structure F where
  th : Key
  bk : Key
  un : Int
  no : Int
deriving DecidableEq, Inhabited
def F.nil : F := ⟨Key.nil, Key.nil, 0, 0⟩
abbrev Sl := List (Option F)
/-- the slot of a number -/
def slot (sl : Sl) (i : Nat) : Option F := (sl[i]?).getD none
def count (sl : Sl) : Nat := sl.countP (·.isSome)
theorem slot_lt {sl : Sl} {i : Nat} {f : F} (h : slot sl i = some f) : i < sl.length := by
  unfold slot at h
  cases hq : sl[i]? with
  | none => rw [hq] at h; cases h
  | some o => exact (List.getElem?_eq_some_iff.1 hq).1
theorem slot_get {sl : Sl} {i : Nat} (h : i < sl.length) : slot sl i = sl[i] := by unfold slot; rw [List.getElem?_eq_getElem h]; rfl
theorem slot_set {sl : Sl} {i j : Nat} {o : Option F} (h : i < sl.length) : slot (sl.set i o) j = if j = i then o else slot sl j := by
  unfold slot
  rw [List.getElem?_set]
  by_cases e : i = j
  · subst e; rw [if_pos rfl, if_pos rfl, if_pos h]; rfl
  · rw [if_neg e, if_neg (Ne.symm e)]
theorem count_set {sl : Sl} {i : Nat} (h : i < sl.length) (o : Option F) : count (sl.set i o) + (slot sl i).isSome.toNat = count sl + o.isSome.toNat := by
  unfold count
  rw [slot_get h]
  have e : sl = sl.take i ++ sl[i] :: sl.drop (i + 1) := by simp
  rw [List.set_eq_take_append_cons_drop, if_pos h]
  conv => rhs; rw [e]
  simp only [List.countP_append, List.countP_cons]
  cases o <;> cases sl[i] <;> simp <;> omega
theorem count_le (sl : Sl) : count sl ≤ sl.length := List.countP_le_length
theorem free_of {sl : Sl} (h : count sl < sl.length) : ∃ i, i < sl.length ∧ slot sl i = none := by
  induction sl with
  | nil => simp [count] at h
  | cons o t ih =>
    cases o with
    | none => exact ⟨0, by simp, rfl⟩
    | some f =>
      have h1 : count t < t.length := by
        unfold count at h ⊢
        rw [List.countP_cons_of_pos (by rfl)] at h
        simp only [List.length_cons] at h
        omega
      obtain ⟨i, hi, e⟩ := ih h1
      exact ⟨i + 1, by simp; omega, by unfold slot at e ⊢; simpa using e⟩
/-- the least number that is free -/
def Free (sl : Sl) (i : Nat) : Prop := i < sl.length ∧ slot sl i = none ∧ ∀ j, j < i → ∃ f, slot sl j = some f
theorem free_ex {sl : Sl} (h : count sl < sl.length) : ∃ i, Free sl i := by
  obtain ⟨i, hi, e⟩ := free_of h
  induction i using Nat.strongRecOn with
  | _ i ih =>
    by_cases hx : ∃ j, j < i ∧ slot sl j = none
    · obtain ⟨j, hj, ej⟩ := hx
      exact ih j hj (by omega) ej
    · refine ⟨i, hi, e, fun j hj => ?_⟩
      cases hs : slot sl j with
      | some f => exact ⟨f, rfl⟩
      | none => exact absurd ⟨j, hj, hs⟩ hx
theorem Free.uniq {sl : Sl} {i j : Nat} (h : Free sl i) (h' : Free sl j) : i = j := by
  rcases Nat.lt_trichotomy i j with e | e | e
  · obtain ⟨f, hf⟩ := h'.2.2 i e; rw [h.2.1] at hf; cases hf
  · exact e
  · obtain ⟨f, hf⟩ := h.2.2 j e; rw [h'.2.1] at hf; cases hf
/-- whose tuple -/
def Of (sl : Sl) (k : Key) (n : Int) : Prop := ∃ (i : Nat) (f : F), slot sl i = some f ∧ ((k = f.th ∧ n = 2 * i) ∨ (k = f.bk ∧ n = 2 * i + 1))
structure Inv (sl : Sl) (tb : List Cell) (l : List Wh.Al) (now : Int) : Prop where
  good : Idx.Good tb
  tlen : tb.length = 1024
  tab : ∀ k n, Idx.has tb k n ↔ Of sl k n
  cnt : Idx.many tb = 2 * count sl
  ok : ∀ i f, slot sl i = some f → Idx.right f.th = true ∧ Idx.right f.bk = true ∧ now < f.un ∧ f.un ≤ 1099511627776
  wok : Wh.Wok l
  wl : ∀ x, x ∈ l ↔ ∃ (i : Nat) (f : F), slot sl i = some f ∧ x = ⟨i, f.un⟩
  len : sl.length ≤ 256
  n0 : 0 ≤ now
theorem has_fun {tb : List Cell} (h : Idx.Good tb) {k : Key} {n m : Int} (h1 : Idx.has tb k n) (h2 : Idx.has tb k m) : n = m := by
  obtain ⟨i, e1⟩ := h1
  obtain ⟨j, e2⟩ := h2
  have := h.uniq (i := i) (j := j) (by rw [e1]) (by rw [e2]) (by rw [e1, e2])
  subst this
  rw [e1] at e2
  injection e2
section
variable {sl : Sl} {tb : List Cell} {l : List Wh.Al} {now : Int}
theorem Inv.one (h : Inv sl tb l now) {k : Key} {n m : Int} (h1 : Of sl k n) (h2 : Of sl k m) : n = m := has_fun h.good ((h.tab k n).2 h1) ((h.tab k m).2 h2)
/-- no two flows have a tuple in common -/
theorem Inv.apart (h : Inv sl tb l now) {i j : Nat} {f g : F} (hi : slot sl i = some f) (hj : slot sl j = some g) (hne : i ≠ j) : f.th ≠ g.th ∧ f.bk ≠ g.bk ∧ f.th ≠ g.bk ∧ f.bk ≠ g.th := by
  refine ⟨fun e => ?_, fun e => ?_, fun e => ?_, fun e => ?_⟩
  · have := h.one (k := f.th) ⟨i, f, hi, Or.inl ⟨rfl, rfl⟩⟩ ⟨j, g, hj, Or.inl ⟨e, rfl⟩⟩; omega
  · have := h.one (k := f.bk) ⟨i, f, hi, Or.inr ⟨rfl, rfl⟩⟩ ⟨j, g, hj, Or.inr ⟨e, rfl⟩⟩; omega
  · have := h.one (k := f.th) ⟨i, f, hi, Or.inl ⟨rfl, rfl⟩⟩ ⟨j, g, hj, Or.inr ⟨e, rfl⟩⟩; omega
  · have := h.one (k := f.bk) ⟨i, f, hi, Or.inr ⟨rfl, rfl⟩⟩ ⟨j, g, hj, Or.inl ⟨e, rfl⟩⟩; omega
theorem Inv.differ (h : Inv sl tb l now) {i : Nat} {f : F} (hi : slot sl i = some f) : f.th ≠ f.bk := fun e => by
  have := h.one (k := f.th) ⟨i, f, hi, Or.inl ⟨rfl, rfl⟩⟩ ⟨i, f, hi, Or.inr ⟨e, rfl⟩⟩
  omega
/-- Get of the table -/
theorem Inv.get_of (h : Inv sl tb l now) {k : Key} {n : Int} (ho : Of sl k n) : Idx.get tb k = (n, true) := by
  obtain ⟨i, e⟩ := (h.tab k n).2 ho
  have hf := h.good.fnd_has e
  unfold Idx.get
  rw [Idx.right_iff.2 h.good, hf]
  simp [e]
theorem Inv.get_no (h : Inv sl tb l now) {k : Key} (ho : ∀ n, ¬ Of sl k n) : Idx.get tb k = (0, false) := by
  obtain ⟨p, hf⟩ := h.good.found k
  have hp := (Idx.ends_of_fnd hf).1
  have hu : (Idx.at' tb p).u = false := by
    cases hu : (Idx.at' tb p).u with
    | false => rfl
    | true => exact absurd ((h.tab k _).1 ⟨p, h.good.fnd_used hf hu⟩) (ho _)
  unfold Idx.get
  rw [Idx.right_iff.2 h.good, hf]
  simp [h.good.clean p hp hu, Cell.nil]
theorem Inv.wlen (h : Inv sl tb l now) : l.length = count sl := by
  have hperm : (l.map (·.k)).Perm (((List.range sl.length).filter (fun i => (slot sl i).isSome)).map (fun (i : Nat) => (i : Int))) := by
    refine (List.perm_ext_iff_of_nodup h.wok.dist ?_).2 (fun x => ?_)
    · rw [List.Nodup, List.pairwise_map]
      exact (show List.Nodup _ from List.filter_sublist.nodup List.nodup_range).imp (fun {a b} hne e => hne (by omega))
    · simp only [List.mem_map, List.mem_filter, List.mem_range]
      constructor
      · rintro ⟨y, hy, rfl⟩
        obtain ⟨i, f, hi, rfl⟩ := (h.wl y).1 hy
        exact ⟨i, ⟨slot_lt hi, by rw [hi]; rfl⟩, rfl⟩
      · rintro ⟨i, ⟨hi, hs⟩, rfl⟩
        cases hf : slot sl i with
        | none => rw [hf] at hs; cases hs
        | some f => exact ⟨⟨i, f.un⟩, (h.wl _).2 ⟨i, f, hf, rfl⟩, rfl⟩
  have h1 := hperm.length_eq
  rw [List.length_map, List.length_map] at h1
  rw [h1]
  unfold count
  have : ∀ (s : Sl), ((List.range s.length).filter (fun i => (slot s i).isSome)).length = s.countP (·.isSome) := by
    intro s
    rw [← List.countP_eq_length_filter]
    have e : s = (List.range s.length).map (slot s) := by
      apply List.ext_getElem (by simp)
      intro i h1 h2
      simp [slot_get h1]
    conv => rhs; rw [e]
    rw [List.countP_map]
    rfl
  exact this sl
theorem Inv.place (h : Inv sl tb l now) {i : Nat} {f : F} (hi : slot sl i = some f) : ∃ p, Wh.place l i = some p ∧ Wh.al l p = ⟨i, f.un⟩ := by
  have hm := (h.wl ⟨i, f.un⟩).2 ⟨i, f, hi, rfl⟩
  obtain ⟨p, hp, e⟩ := Wh.mem_al hm
  have := Wh.place_at h.wok.dist hp
  rw [e] at this
  exact ⟨p, this, e⟩
theorem Inv.noplace (h : Inv sl tb l now) {i : Nat} (hi : slot sl i = none) : Wh.place l i = none := by
  cases hp : Wh.place l i with
  | none => rfl
  | some p =>
    obtain ⟨h1, h2⟩ := Wh.place_some hp
    obtain ⟨j, f, hj, e⟩ := (h.wl _).1 (Wh.al_mem h1)
    rw [e] at h2
    simp only at h2
    have : j = i := by omega
    subst this
    rw [hi] at hj; cases hj
/-- beginning -/
theorem Inv.new (n : Nat) (hn : n ≤ 256) : Inv (List.replicate n none) (List.replicate 1024 Cell.nil) [] 0 := by
  have hs : ∀ i, slot (List.replicate n (none : Option F)) i = none := fun i => by
    unfold slot
    rw [List.getElem?_replicate]
    split <;> rfl
  refine ⟨Idx.good_new (by decide), List.length_replicate, fun k v => ⟨fun h => absurd h Idx.has_new, fun ⟨i, f, h, _⟩ => by rw [hs] at h; cases h⟩, ?_, fun i f h => (by rw [hs] at h; cases h), Wh.Wok.nil, fun x => ⟨fun h => (by cases h), fun ⟨i, f, h, _⟩ => by rw [hs] at h; cases h⟩, by simpa using hn, by omega⟩
  rw [Idx.many_rep]
  unfold count
  rw [List.countP_eq_zero.2 (fun a ha => by rw [List.eq_of_mem_replicate ha]; simp)]
/-- a flow is put at a free number: the table twice, then the wheel -/
theorem Inv.add (h : Inv sl tb l now) {i : Nat} {f : F} (hi : i < sl.length) (hs : slot sl i = none) (r1 : Idx.right f.th = true) (r2 : Idx.right f.bk = true) (hne : f.th ≠ f.bk) (hn : now < f.un) (hu : f.un ≤ 1099511627776)
    (h1 : ∀ n, ¬ Of sl f.th n) (h2 : ∀ n, ¬ Of sl f.bk n) :
    ∃ R1 R2, Idx.put tb f.th (2 * i) = (R1, 0) ∧ Idx.put R1 f.bk (2 * i + 1) = (R2, 0) ∧ R1.length = 1024 ∧ R2.length = 1024 ∧ Inv (sl.set i (some f)) R2 (Wh.setL l i f.un) now := by
  have hc : count sl < sl.length := by
    have h3 := count_set hi (some f)
    have h4 := count_le (sl.set i (some f))
    rw [hs] at h3
    simp at h3 h4
    omega
  have hcn := h.cnt
  have hl := h.len
  obtain ⟨R1, e1, g1, p1, q1, l1⟩ := Idx.put_ok h.good (n := 2 * (i : Int)) r1 (fun v hv => h1 v ((h.tab _ _).1 hv)) (by rw [h.tlen]; omega)
  obtain ⟨R2, e2, g2, p2, q2, l2⟩ := Idx.put_ok g1 (n := 2 * (i : Int) + 1) r2 (fun v hv => by
    rcases (p1 _ _).1 hv with h3 | ⟨h3, _⟩
    · exact h2 v ((h.tab _ _).1 h3)
    · exact hne h3.symm) (by rw [l1, h.tlen, q1]; omega)
  refine ⟨R1, R2, e1, e2, l1.trans h.tlen, l2.trans (l1.trans h.tlen), g2, l2.trans (l1.trans h.tlen), fun k n => ?_, ?_, fun j g hg => ?_, h.wok.set _ _, fun x => ?_, by simpa using h.len, h.n0⟩
  · rw [p2, p1, h.tab]
    constructor
    · rintro ((⟨j, g, hg, ho⟩ | ⟨rfl, rfl⟩) | ⟨rfl, rfl⟩)
      · refine ⟨j, g, ?_, ho⟩
        rw [slot_set hi, if_neg (fun e => by rw [e, hs] at hg; cases hg)]
        exact hg
      · exact ⟨i, f, by rw [slot_set hi, if_pos rfl], Or.inl ⟨rfl, rfl⟩⟩
      · exact ⟨i, f, by rw [slot_set hi, if_pos rfl], Or.inr ⟨rfl, rfl⟩⟩
    · rintro ⟨j, g, hg, ho⟩
      rw [slot_set hi] at hg
      by_cases e : j = i
      · rw [if_pos e] at hg
        injection hg with hg
        subst hg e
        rcases ho with ⟨rfl, rfl⟩ | ⟨rfl, rfl⟩
        · exact Or.inl (Or.inr ⟨rfl, rfl⟩)
        · exact Or.inr ⟨rfl, rfl⟩
      · rw [if_neg e] at hg
        exact Or.inl (Or.inl ⟨j, g, hg, ho⟩)
  · have h3 := count_set hi (some f)
    rw [hs] at h3
    simp at h3
    rw [q2, q1, hcn]
    omega
  · rw [slot_set hi] at hg
    by_cases e : j = i
    · rw [if_pos e] at hg
      injection hg with hg
      subst hg
      exact ⟨r1, r2, hn, hu⟩
    · rw [if_neg e] at hg
      exact h.ok j g hg
  · rw [Wh.mem_set h.wok.dist, h.wl]
    constructor
    · rintro (rfl | ⟨⟨j, g, hg, rfl⟩, hk⟩)
      · exact ⟨i, f, by rw [slot_set hi, if_pos rfl], rfl⟩
      · refine ⟨j, g, ?_, rfl⟩
        simp only at hk
        rw [slot_set hi, if_neg (by omega)]
        exact hg
    · rintro ⟨j, g, hg, rfl⟩
      rw [slot_set hi] at hg
      by_cases e : j = i
      · rw [if_pos e] at hg
        injection hg with hg
        subst hg e
        exact Or.inl rfl
      · rw [if_neg e] at hg
        exact Or.inr ⟨⟨j, g, hg, rfl⟩, by simp only; omega⟩
/-- another time, another note -/
theorem Inv.retime (h : Inv sl tb l now) {i : Nat} {f : F} (hi : slot sl i = some f) {t : Int} (no : Int) (hn : now < t) (hu : t ≤ 1099511627776) :
    Inv (sl.set i (some { f with un := t, no := no })) tb (Wh.setL l i t) now := by
  have hl := slot_lt hi
  have hof : ∀ k n, Of (sl.set i (some { f with un := t, no := no })) k n ↔ Of sl k n := by
    intro k n
    constructor
    · rintro ⟨j, g, hg, ho⟩
      rw [slot_set hl] at hg
      by_cases e : j = i
      · rw [if_pos e] at hg
        injection hg with hg
        subst hg e
        exact ⟨j, f, hi, ho⟩
      · rw [if_neg e] at hg
        exact ⟨j, g, hg, ho⟩
    · rintro ⟨j, g, hg, ho⟩
      by_cases e : j = i
      · subst e
        rw [hi] at hg
        injection hg with hg
        subst hg
        exact ⟨j, { f with un := t, no := no }, by rw [slot_set hl, if_pos rfl], ho⟩
      · exact ⟨j, g, by rw [slot_set hl, if_neg e]; exact hg, ho⟩
  refine ⟨h.good, h.tlen, fun k n => (h.tab k n).trans (hof k n).symm, ?_, fun j g hg => ?_, h.wok.set _ _, fun x => ?_, by simpa using h.len, h.n0⟩
  · have h3 := count_set hl (some { f with un := t, no := no })
    rw [hi] at h3
    simp at h3
    rw [h.cnt]
    omega
  · rw [slot_set hl] at hg
    by_cases e : j = i
    · rw [if_pos e] at hg
      injection hg with hg
      subst hg
      obtain ⟨a, b, _, _⟩ := h.ok i f hi
      exact ⟨a, b, hn, hu⟩
    · rw [if_neg e] at hg
      exact h.ok j g hg
  · rw [Wh.mem_set h.wok.dist, h.wl]
    constructor
    · rintro (rfl | ⟨⟨j, g, hg, rfl⟩, hk⟩)
      · exact ⟨i, { f with un := t, no := no }, by rw [slot_set hl, if_pos rfl], rfl⟩
      · refine ⟨j, g, ?_, rfl⟩
        simp only at hk
        rw [slot_set hl, if_neg (by omega)]
        exact hg
    · rintro ⟨j, g, hg, rfl⟩
      rw [slot_set hl] at hg
      by_cases e : j = i
      · rw [if_pos e] at hg
        injection hg with hg
        subst hg e
        exact Or.inl rfl
      · rw [if_neg e] at hg
        exact Or.inr ⟨⟨j, g, hg, rfl⟩, by simp only; omega⟩
/-- what holds while flows are forgotten: the wheel holds no more what is due (D: numbers that are still to be forgotten) -/
structure Part (sl : Sl) (tb : List Cell) (l : List Wh.Al) (now : Int) (D : List Nat) : Prop where
  good : Idx.Good tb
  tlen : tb.length = 1024
  tab : ∀ k n, Idx.has tb k n ↔ Of sl k n
  cnt : Idx.many tb = 2 * count sl
  ok : ∀ i f, slot sl i = some f → Idx.right f.th = true ∧ Idx.right f.bk = true ∧ (i ∉ D → now < f.un) ∧ f.un ≤ 1099511627776
  wok : Wh.Wok l
  wl : ∀ x, x ∈ l ↔ ∃ (i : Nat) (f : F), slot sl i = some f ∧ i ∉ D ∧ x = ⟨i, f.un⟩
  len : sl.length ≤ 256
  n0 : 0 ≤ now
  dis : D.Nodup
  has : ∀ i ∈ D, ∃ f, slot sl i = some f
theorem Part.inv (h : Part sl tb l now []) : Inv sl tb l now :=
  ⟨h.good, h.tlen, h.tab, h.cnt, fun i f hi => ⟨(h.ok i f hi).1, (h.ok i f hi).2.1, (h.ok i f hi).2.2.1 (by simp), (h.ok i f hi).2.2.2⟩, h.wok, fun x => (h.wl x).trans ⟨fun ⟨i, f, a, _, b⟩ => ⟨i, f, a, b⟩, fun ⟨i, f, a, b⟩ => ⟨i, f, a, by simp, b⟩⟩, h.len, h.n0⟩
theorem Inv.part (h : Inv sl tb l now) : Part sl tb l now [] :=
  ⟨h.good, h.tlen, h.tab, h.cnt, fun i f hi => ⟨(h.ok i f hi).1, (h.ok i f hi).2.1, fun _ => (h.ok i f hi).2.2.1, (h.ok i f hi).2.2.2⟩, h.wok, fun x => (h.wl x).trans ⟨fun ⟨i, f, a, b⟩ => ⟨i, f, a, by simp, b⟩, fun ⟨i, f, a, _, b⟩ => ⟨i, f, a, b⟩⟩, h.len, h.n0, by simp, by simp⟩
/-- a flow is forgotten: both tuples are taken out of the table -/
theorem Part.forget {D : List Nat} {i : Nat} (h : Part sl tb l now (i :: D)) {f : F} (hi : slot sl i = some f) :
    ∃ R1 R2, Idx.del tb f.th = (R1, 0) ∧ Idx.del R1 f.bk = (R2, 0) ∧ R1.length = 1024 ∧ R2.length = 1024 ∧ Part (sl.set i none) R2 l now D := by
  have hl := slot_lt hi
  have hiD : i ∉ D := (List.nodup_cons.1 h.dis).1
  have one : ∀ {k : Key} {n m : Int}, Of sl k n → Of sl k m → n = m := fun h1 h2 => has_fun h.good ((h.tab _ _).2 h1) ((h.tab _ _).2 h2)
  have hdif : f.th ≠ f.bk := fun e => by
    have := one (k := f.th) ⟨i, f, hi, Or.inl ⟨rfl, rfl⟩⟩ ⟨i, f, hi, Or.inr ⟨e, rfl⟩⟩
    omega
  obtain ⟨R1, e1, g1, p1, q1, l1⟩ := Idx.del_ok h.good ((h.tab f.th (2 * i)).2 ⟨i, f, hi, Or.inl ⟨rfl, rfl⟩⟩)
  obtain ⟨R2, e2, g2, p2, q2, l2⟩ := Idx.del_ok g1 ((p1 f.bk (2 * i + 1)).2 ⟨(h.tab _ _).2 ⟨i, f, hi, Or.inr ⟨rfl, rfl⟩⟩, Ne.symm hdif⟩)
  refine ⟨R1, R2, e1, e2, l1.trans h.tlen, l2.trans (l1.trans h.tlen), g2, l2.trans (l1.trans h.tlen), fun k n => ?_, ?_, fun j g hg => ?_, h.wok, fun x => ?_, by simpa using h.len, h.n0, (List.nodup_cons.1 h.dis).2, fun j hj => ?_⟩
  · rw [p2, p1, h.tab]
    constructor
    · rintro ⟨⟨⟨j, g, hg, ho⟩, h1⟩, h2⟩
      refine ⟨j, g, ?_, ho⟩
      rw [slot_set hl, if_neg]
      · exact hg
      · intro e
        subst e
        rw [hi] at hg
        injection hg with hg
        subst hg
        rcases ho with ⟨rfl, _⟩ | ⟨rfl, _⟩
        · exact h1 rfl
        · exact h2 rfl
    · rintro ⟨j, g, hg, ho⟩
      rw [slot_set hl] at hg
      by_cases e : j = i
      · rw [if_pos e] at hg; cases hg
      · rw [if_neg e] at hg
        refine ⟨⟨⟨j, g, hg, ho⟩, ?_⟩, ?_⟩
        · rintro rfl
          have := one ⟨j, g, hg, ho⟩ ⟨i, f, hi, Or.inl ⟨rfl, rfl⟩⟩
          rcases ho with ⟨_, h3⟩ | ⟨_, h3⟩ <;> omega
        · rintro rfl
          have := one ⟨j, g, hg, ho⟩ ⟨i, f, hi, Or.inr ⟨rfl, rfl⟩⟩
          rcases ho with ⟨_, h3⟩ | ⟨_, h3⟩ <;> omega
  · have h3 := count_set hl (none : Option F)
    rw [hi] at h3
    simp at h3
    have := h.cnt
    omega
  · rw [slot_set hl] at hg
    by_cases e : j = i
    · rw [if_pos e] at hg; cases hg
    · rw [if_neg e] at hg
      obtain ⟨a, b, c, d⟩ := h.ok j g hg
      exact ⟨a, b, fun hj => c (by simp [e, hj]), d⟩
  · rw [h.wl]
    constructor
    · rintro ⟨j, g, hg, hj, rfl⟩
      simp only [List.mem_cons, not_or] at hj
      exact ⟨j, g, by rw [slot_set hl, if_neg hj.1]; exact hg, hj.2, rfl⟩
    · rintro ⟨j, g, hg, hj, rfl⟩
      rw [slot_set hl] at hg
      by_cases e : j = i
      · rw [if_pos e] at hg; cases hg
      · rw [if_neg e] at hg
        exact ⟨j, g, hg, by simp [e, hj], rfl⟩
  · obtain ⟨g, hg⟩ := h.has j (by simp [hj])
    exact ⟨g, by rw [slot_set hl, if_neg (fun e => hiD (by rw [← e]; exact hj))]; exact hg⟩
/-- a drop begins -/
theorem Inv.dropped (h : Inv sl tb l now) {i : Nat} {f : F} (hi : slot sl i = some f) : Part sl tb (Wh.dropAt l i) now [i] := by
  refine ⟨h.good, h.tlen, h.tab, h.cnt, fun j g hg => ⟨(h.ok j g hg).1, (h.ok j g hg).2.1, fun _ => (h.ok j g hg).2.2.1, (h.ok j g hg).2.2.2⟩, Wh.dropAt_wok h.wok _, fun x => ?_, h.len, h.n0, by simp, fun j hj => ⟨f, by simp at hj; subst hj; exact hi⟩⟩
  rw [Wh.mem_dropAt h.wok, h.wl]
  constructor
  · rintro ⟨⟨j, g, hg, rfl⟩, hk⟩
    simp only at hk
    exact ⟨j, g, hg, by simp; omega, rfl⟩
  · rintro ⟨j, g, hg, hj, rfl⟩
    simp only [List.mem_singleton] at hj
    exact ⟨⟨j, g, hg, rfl⟩, by simp only; omega⟩
/-- a tick begins: what is due, by numbers -/
theorem Inv.ticked (h : Inv sl tb l now) {t : Int} (ht : now ≤ t) :
    ∃ D : List Nat, (Wh.tickL (l.length + 1) l t).1.map (·.k) = D.map (fun (i : Nat) => (i : Int)) ∧ Part sl tb (Wh.tickL (l.length + 1) l t).2 t D ∧ D.length ≤ 256 ∧ ∀ i f, slot sl i = some f → (i ∈ D ↔ f.un ≤ t) := by
  obtain ⟨p, q1, q2, q3, q4⟩ := Wh.tick_law t _ _ h.wok (Nat.lt_succ_self _)
  simp only [Nat.succ_eq_add_one] at *
  obtain ⟨r, hr⟩ : ∃ r, r = Wh.tickL (l.length + 1) l t := ⟨_, rfl⟩
  rw [← hr] at p q1 q2 q3 q4 ⊢
  have hk : ∀ x ∈ r.1, ∃ (i : Nat) (f : F), slot sl i = some f ∧ x = ⟨i, f.un⟩ := fun x hx => (h.wl x).1 (p.mem_iff.1 (List.mem_append_left _ hx))
  have hD : r.1.map (·.k) = (r.1.map (fun x => x.k.toNat)).map (fun (i : Nat) => (i : Int)) := by
    rw [List.map_map]
    apply List.map_congr_left
    intro x hx
    obtain ⟨i, f, _, rfl⟩ := hk x hx
    simp
  have hnd : (r.1.map (fun x => x.k.toNat)).Nodup := by
    have h1 : ((r.1 ++ r.2).map (·.k)).Nodup := (p.map _).nodup_iff.2 h.wok.dist
    rw [List.map_append, List.nodup_append] at h1
    have h2 := h1.1
    rw [hD] at h2
    rw [List.Nodup, List.pairwise_map] at h2
    exact h2.imp (fun hne e => hne (by rw [e]))
  have hmem : ∀ i f, slot sl i = some f → (i ∈ r.1.map (fun x => x.k.toNat) ↔ f.un ≤ t) := by
    intro i f hi
    constructor
    · intro hm
      obtain ⟨x, hx, e⟩ := List.mem_map.1 hm
      obtain ⟨j, g, hj, rfl⟩ := hk x hx
      simp only [Int.toNat_natCast] at e
      subst e
      rw [hi] at hj
      injection hj with hj
      subst hj
      exact q1 _ hx
    · intro hu
      have hin := (h.wl ⟨i, f.un⟩).2 ⟨i, f, hi, rfl⟩
      rcases List.mem_append.1 (p.mem_iff.2 hin) with h1 | h1
      · exact List.mem_map.2 ⟨_, h1, by simp⟩
      · have := q2 _ h1
        simp only at this
        omega
  refine ⟨_, hD, ⟨h.good, h.tlen, h.tab, h.cnt, fun i f hi => ⟨(h.ok i f hi).1, (h.ok i f hi).2.1, fun hn => ?_, (h.ok i f hi).2.2.2⟩, q4, fun x => ?_, h.len, Int.le_trans h.n0 ht, hnd, fun i hi => ?_⟩, ?_, hmem⟩
  · rw [hmem i f hi] at hn
    omega
  · constructor
    · intro hx
      obtain ⟨i, f, hi, rfl⟩ := (h.wl x).1 (p.mem_iff.1 (List.mem_append_right _ hx))
      refine ⟨i, f, hi, ?_, rfl⟩
      rw [hmem i f hi]
      have := q2 _ hx
      simp only at this
      omega
    · rintro ⟨i, f, hi, hn, rfl⟩
      rw [hmem i f hi] at hn
      rcases List.mem_append.1 (p.mem_iff.2 ((h.wl ⟨i, f.un⟩).2 ⟨i, f, hi, rfl⟩)) with h1 | h1
      · exact absurd (q1 _ h1) hn
      · exact h1
  · obtain ⟨x, hx, e⟩ := List.mem_map.1 hi
    obtain ⟨j, g, hj, rfl⟩ := hk x hx
    simp only [Int.toNat_natCast] at e
    subst e
    exact ⟨g, hj⟩
  · rw [List.length_map]
    have h1 := p.length_eq
    rw [List.length_append] at h1
    have h2 := h.wlen
    have h3 := count_le sl
    have h4 := h.len
    omega
end
end Fl
end Go.Proofs.Ytdboehogkmidbaa
