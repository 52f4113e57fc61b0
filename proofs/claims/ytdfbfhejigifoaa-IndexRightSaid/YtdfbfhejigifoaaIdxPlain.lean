/- A table of keys without a list: looking for, putting, taking out. No program in sight. -/
import Derived.RowKit
namespace Go.Proofs.Ytdfbfhejigifoaa
set_option linter.unusedVariables false
set_option linter.unusedSectionVars false
namespace Idx
structure Key where
  pr : Int
  sr : Int
  sp : Int
  ds : Int
  dp : Int
deriving DecidableEq, Inhabited
structure Cell where
  u : Bool
  k : Key
  n : Int
deriving DecidableEq, Inhabited
def Key.nil : Key := ⟨0, 0, 0, 0, 0⟩
def Cell.nil : Cell := ⟨false, Key.nil, 0⟩
def Key.bytes (k : Key) : List Int := [k.pr % 256, k.sr / 16777216 % 256, k.sr / 65536 % 256, k.sr / 256 % 256, k.sr % 256, k.sp / 256 % 256, k.sp % 256, k.ds / 16777216 % 256, k.ds / 65536 % 256, k.ds / 256 % 256, k.ds % 256, k.dp / 256 % 256, k.dp % 256]
def mix (h c : Int) : Int := (Go.bits .xor .u32 h c * 16777619) % 4294967296
def hash (k : Key) : Int := k.bytes.foldl mix 2166136261
def right (k : Key) : Bool := decide (0 ≤ k.pr ∧ k.pr ≤ 255) && decide (0 ≤ k.sp ∧ k.sp ≤ 65535) && decide (0 ≤ k.dp ∧ k.dp ≤ 65535)
theorem mix_bd (h c : Int) : 0 ≤ mix h c ∧ mix h c < 4294967296 := by unfold mix; omega
theorem hash_bd (k : Key) : 0 ≤ hash k ∧ hash k < 4294967296 := by
  unfold hash Key.bytes
  simp only [List.foldl_cons, List.foldl_nil]
  exact mix_bd _ _
attribute [irreducible] hash
def home (N : Nat) (k : Key) : Nat := (hash k).toNat % N
/-- from a to b, round N places -/
def dist (N a b : Nat) : Nat := if a ≤ b then b - a else b + N - a
def adv (N a d : Nat) : Nat := (a + d) % N
def at' (l : List Cell) (i : Nat) : Cell := l.getD i Cell.nil
def stop (l : List Cell) (k : Key) (i : Nat) : Bool := !(at' l i).u || decide ((at' l i).k = k)
/-- the place where the search for a key ends -/
def fnd (l : List Cell) (k : Key) : Option Nat := ((List.range l.length).map (adv l.length (home l.length k))).find? (stop l k)
def many (l : List Cell) : Nat := l.countP (·.u)
def size (n : Int) : Bool := decide (n = 2 ∨ n = 4 ∨ n = 8 ∨ n = 16 ∨ n = 32 ∨ n = 64 ∨ n = 128 ∨ n = 256 ∨ n = 512 ∨ n = 1024)
def fine (l : List Cell) (i : Nat) : Bool := if (at' l i).u then decide (fnd l (at' l i).k = some i) && right (at' l i).k else decide (at' l i = Cell.nil)
def Right (l : List Cell) : Bool := size l.length && decide (many l < l.length) && (List.range l.length).all (fine l)
def get (l : List Cell) (k : Key) : Int × Bool :=
  if Right l then match fnd l k with
    | some i => ((at' l i).n, (at' l i).u)
    | none => (0, false)
  else (0, false)
/-- the table, and the error -/
def put (l : List Cell) (k : Key) (n : Int) : List Cell × Int :=
  if !(Right l && right k) then (l, 1)
  else match fnd l k with
    | some i => if (at' l i).u then (l, 10) else if many l + 1 = l.length then (l, 8) else (l.set i ⟨true, k, n⟩, 0)
    | none => (l, 0)
def delLoop : Nat → List Cell → Nat → Nat → List Cell
  | 0, out, hole, _ => out.set hole Cell.nil
  | f + 1, out, hole, a =>
    if (at' out a).u then
      if dist out.length hole a ≤ dist out.length (home out.length (at' out a).k) a then delLoop f (out.set hole (at' out a)) a (adv out.length a 1)
      else delLoop f out hole (adv out.length a 1)
    else out.set hole Cell.nil
def del (l : List Cell) (k : Key) : List Cell × Int :=
  if !Right l then (l, 1)
  else match fnd l k with
    | some i => if (at' l i).u then (delLoop l.length l i (adv l.length i 1), 0) else (l, 9)
    | none => (l, 9)
def rdelLoop : Nat → List Cell → Nat → List Cell
  | 0, out, _ => out
  | f + 1, out, i =>
    if (at' out i).u then
      let o1 := out.set i Cell.nil
      rdelLoop f (o1.set ((fnd o1 (at' out i).k).getD 0) (at' out i)) (adv out.length i 1)
    else out
/-! ### laws -/
variable {N : Nat} {l : List Cell}
theorem dist_lt {a b : Nat} (ha : a < N) (hb : b < N) : dist N a b < N := by unfold dist; split <;> omega
theorem dist_adv {a d : Nat} (ha : a < N) (hd : d < N) : dist N a (adv N a d) = d := by
  unfold dist adv
  by_cases h : a + d < N
  · rw [Nat.mod_eq_of_lt h, if_pos (by omega)]; omega
  · have : (a + d) % N = a + d - N := by
      rw [Nat.mod_eq_sub_mod (by omega), Nat.mod_eq_of_lt (by omega)]
    rw [this]
    split <;> omega
theorem adv_dist {a b : Nat} (ha : a < N) (hb : b < N) : adv N a (dist N a b) = b := by
  unfold adv dist
  split
  · rw [Nat.mod_eq_of_lt (by omega)]; omega
  · rw [Nat.mod_eq_sub_mod (by omega), Nat.mod_eq_of_lt (by omega)]; omega
theorem adv_lt {a d : Nat} (h : 0 < N) : adv N a d < N := Nat.mod_lt _ h
theorem home_lt (h : 0 < N) (k : Key) : home N k < N := Nat.mod_lt _ h
theorem adv_one {a : Nat} (ha : a < N) : adv N a 1 = if a + 1 < N then a + 1 else 0 := by
  unfold adv
  split
  · rw [Nat.mod_eq_of_lt (by omega)]
  · rw [show a + 1 = N by omega, Nat.mod_self]
/-- where the search ends -/
def Ends (l : List Cell) (k : Key) (p : Nat) : Prop :=
  p < l.length ∧ stop l k p = true ∧ ∀ q, q < l.length → dist l.length (home l.length k) q < dist l.length (home l.length k) p → stop l k q = false
theorem find_adv {N a : Nat} {f : Nat → Bool} {p : Nat} (hh : a < N) (h : ((List.range N).map (adv N a)).find? f = some p) : p < N ∧ f p = true ∧ ∀ q, q < N → dist N a q < dist N a p → f q = false := by
  rw [List.find?_eq_some_iff_append] at h
  obtain ⟨hp, as, bs, e, hn⟩ := h
  have hm : p ∈ (List.range N).map (adv N a) := by rw [e]; simp
  obtain ⟨d, hd, rfl⟩ := List.mem_map.1 hm
  rw [List.mem_range] at hd
  have h0 : 0 < N := by omega
  refine ⟨adv_lt h0, hp, fun q hq hlt => ?_⟩
  have hel : as.length = d := by
    have h1 : as.length < N := by
      have := congrArg List.length e
      simp at this; omega
    have h2 : ((List.range N).map (adv N a))[as.length]? = some (adv N a d) := by rw [e]; simp
    simp [h1] at h2
    have := congrArg (dist N a) h2
    rw [dist_adv hh h1, dist_adv hh hd] at this
    exact this
  rw [dist_adv hh hd] at hlt
  have hql := dist_lt hh hq
  have hqa : adv N a (dist N a q) = q := adv_dist hh hq
  have hmem : q ∈ as := by
    have h2 : ((List.range N).map (adv N a))[dist N a q]? = some q := by simp [hql, hqa]
    rw [e, List.getElem?_append_left (by omega)] at h2
    exact List.mem_of_getElem? h2
  have := hn q hmem
  simpa using this
theorem find_none {N a : Nat} {f : Nat → Bool} {p : Nat} (hh : a < N) (h : ((List.range N).map (adv N a)).find? f = none) (hp : p < N) : f p = false := by
  rw [List.find?_eq_none] at h
  have := h p (List.mem_map.2 ⟨_, List.mem_range.2 (dist_lt hh hp), adv_dist hh hp⟩)
  simpa using this
theorem fnd_pos {k : Key} {p : Nat} (h : fnd l k = some p) : 0 < l.length := by
  rcases Nat.eq_zero_or_pos l.length with h0 | h0
  · unfold fnd at h
    rw [h0] at h
    cases h
  · exact h0
theorem ends_of_fnd {k : Key} {p : Nat} (h : fnd l k = some p) : Ends l k p := find_adv (home_lt (fnd_pos h) k) h
theorem ends_uniq {k : Key} {p q : Nat} (hp : Ends l k p) (hq : Ends l k q) : p = q := by
  have h0 : 0 < l.length := by have := hp.1; omega
  have hh := home_lt h0 k
  have e : dist l.length (home l.length k) p = dist l.length (home l.length k) q := by
    rcases Nat.lt_trichotomy (dist l.length (home l.length k) p) (dist l.length (home l.length k) q) with h | h | h
    · have := hq.2.2 p hp.1 h
      rw [hp.2.1] at this; cases this
    · exact h
    · have := hp.2.2 q hq.1 h
      rw [hq.2.1] at this; cases this
  rw [← adv_dist hh hp.1, ← adv_dist hh hq.1, e]
theorem fnd_some {k : Key} {p : Nat} (h : Ends l k p) : fnd l k = some p := by
  have h0 : 0 < l.length := by have := h.1; omega
  cases hf : fnd l k with
  | none =>
    have := find_none (home_lt h0 k) hf h.1
    rw [h.2.1] at this; cases this
  | some q => rw [ends_uniq (ends_of_fnd hf) h]
theorem fnd_iff {k : Key} {p : Nat} : fnd l k = some p ↔ Ends l k p := ⟨ends_of_fnd, fnd_some⟩
theorem fnd_of_stop {k : Key} {p : Nat} (hp : p < l.length) (hs : stop l k p = true) : ∃ q, fnd l k = some q := by
  have h0 : 0 < l.length := by omega
  cases hf : fnd l k with
  | some q => exact ⟨q, rfl⟩
  | none =>
    have := find_none (home_lt h0 k) hf hp
    rw [hs] at this; cases this
theorem at_lt {i : Nat} (h : i < l.length) : at' l i = l[i] := by simp [at', h]
theorem at_used {i : Nat} (h : (at' l i).u = true) : i < l.length := by
  rcases Nat.lt_or_ge i l.length with h1 | h1
  · exact h1
  · simp [at', h1, Cell.nil] at h
theorem at_set {i j : Nat} {c : Cell} (hi : i < l.length) : at' (l.set i c) j = if j = i then c else at' l j := by
  unfold at'
  by_cases h : j = i
  · subst h; simp [hi]
  · rw [if_neg h, List.getD_eq_getElem?_getD, List.getElem?_set_ne (by omega), List.getD_eq_getElem?_getD]
theorem ext_at {a b : List Cell} (hl : a.length = b.length) (h : ∀ i, i < a.length → at' a i = at' b i) : a = b := by
  refine List.ext_getElem hl fun i h1 h2 => ?_
  rw [← at_lt h1, ← at_lt h2]; exact h i h1
/-- an empty place -/
theorem empty_of_many (h : many l < l.length) : ∃ e, e < l.length ∧ (at' l e).u = false := by
  apply Classical.byContradiction
  intro hn
  have : ∀ c ∈ l, c.u = true := by
    intro c hc
    obtain ⟨i, hi, rfl⟩ := List.getElem_of_mem hc
    rw [← at_lt hi]
    cases hu : (at' l i).u
    · exact absurd ⟨i, hi, hu⟩ hn
    · rfl
  have := (List.countP_eq_length (p := (·.u)) (l := l)).2 this
  unfold many at h
  omega
theorem many_set {c : Cell} : ∀ {l : List Cell} {i : Nat}, i < l.length → many (l.set i c) + (if (at' l i).u then 1 else 0) = many l + (if c.u then 1 else 0)
  | [], i, hi => by simp at hi
  | x :: t, 0, hi => by
    simp only [many, List.set_cons_zero, List.countP_cons, at', List.getD_cons_zero]
    cases x.u <;> cases c.u <;> simp
  | x :: t, i + 1, hi => by
    have := many_set (c := c) (l := t) (i := i) (by simpa using hi)
    have e1 : many ((x :: t).set (i + 1) c) = many (t.set i c) + (if x.u then 1 else 0) := by simp only [many, List.set_cons_succ, List.countP_cons]
    have e2 : many (x :: t) = many t + (if x.u then 1 else 0) := by simp only [many, List.countP_cons]
    have e3 : at' (x :: t) (i + 1) = at' t i := rfl
    rw [e1, e2, e3]
    omega
/-! ### a right table -/
structure Good (l : List Cell) : Prop where
  size : size l.length = true
  room : many l < l.length
  path : ∀ i, i < l.length → (at' l i).u = true → ∀ q, q < l.length → dist l.length (home l.length (at' l i).k) q < dist l.length (home l.length (at' l i).k) i → (at' l q).u = true ∧ (at' l q).k ≠ (at' l i).k
  wf : ∀ i, i < l.length → (at' l i).u = true → right (at' l i).k = true
  clean : ∀ i, i < l.length → (at' l i).u = false → at' l i = Cell.nil
theorem stop_false {k : Key} {q : Nat} : stop l k q = false ↔ (at' l q).u = true ∧ (at' l q).k ≠ k := by
  unfold stop
  cases (at' l q).u <;> simp
theorem stop_true {k : Key} {q : Nat} : stop l k q = true ↔ (at' l q).u = false ∨ (at' l q).k = k := by
  unfold stop
  cases (at' l q).u <;> simp
theorem right_iff : Right l = true ↔ Good l := by
  unfold Right
  simp only [Bool.and_eq_true, decide_eq_true_eq, List.all_eq_true, List.mem_range]
  constructor
  · rintro ⟨⟨h1, h2⟩, h3⟩
    have hc : ∀ i, i < l.length → (at' l i).u = true → Ends l (at' l i).k i ∧ right (at' l i).k = true := by
      intro i hi hu
      have := h3 i hi
      unfold fine at this
      rw [if_pos hu] at this
      simp only [Bool.and_eq_true, decide_eq_true_eq] at this
      exact ⟨fnd_iff.1 this.1, this.2⟩
    refine ⟨h1, h2, fun i hi hu q hq hlt => stop_false.1 ((hc i hi hu).1.2.2 q hq hlt), fun i hi hu => (hc i hi hu).2, fun i hi hu => ?_⟩
    have := h3 i hi
    unfold fine at this
    rw [if_neg (by simp [hu])] at this
    simpa using this
  · intro h
    refine ⟨⟨h.size, h.room⟩, fun i hi => ?_⟩
    unfold fine
    cases hu : (at' l i).u
    · simpa using h.clean i hi hu
    · simp only [if_true, Bool.and_eq_true, decide_eq_true_eq]
      refine ⟨fnd_some ⟨hi, ?_, fun q hq hlt => stop_false.2 (h.path i hi hu q hq hlt)⟩, h.wf i hi hu⟩
      rw [stop_true]; exact .inr rfl
theorem Good.pos (h : Good l) : 0 < l.length := by have := h.room; omega
theorem Good.ends (h : Good l) {i : Nat} (hu : (at' l i).u = true) : Ends l (at' l i).k i :=
  ⟨at_used hu, stop_true.2 (.inr rfl), fun q hq hlt => stop_false.2 (h.path i (at_used hu) hu q hq hlt)⟩
theorem Good.found (h : Good l) (k : Key) : ∃ p, fnd l k = some p := by
  obtain ⟨e, he, hu⟩ := empty_of_many h.room
  exact fnd_of_stop he (stop_true.2 (.inl hu))
theorem Good.uniq (h : Good l) {i j : Nat} (hi : (at' l i).u = true) (hj : (at' l j).u = true) (e : (at' l i).k = (at' l j).k) : i = j := by
  have h1 := h.ends hi
  have h2 := h.ends hj
  rw [e] at h1
  exact ends_uniq h1 h2
/-- the table has a key with a number -/
def has (l : List Cell) (k : Key) (n : Int) : Prop := ∃ i, at' l i = ⟨true, k, n⟩
theorem Good.fnd_has (h : Good l) {k : Key} {n : Int} {i : Nat} (e : at' l i = ⟨true, k, n⟩) : fnd l k = some i := by
  have := h.ends (i := i) (by rw [e])
  rw [e] at this
  exact fnd_some this
theorem Good.fnd_used (h : Good l) {k : Key} {p : Nat} (hf : fnd l k = some p) (hu : (at' l p).u = true) : at' l p = ⟨true, k, (at' l p).n⟩ := by
  have := (ends_of_fnd hf).2.1
  rw [stop_true, hu] at this
  rcases this with h1 | h1
  · cases h1
  · cases hc : at' l p with
    | mk u k' n => rw [hc] at hu h1; simp_all
theorem Good.fnd_free (h : Good l) {k : Key} {p : Nat} (hf : fnd l k = some p) (hu : (at' l p).u = false) (n : Int) : ¬ has l k n := by
  rintro ⟨i, e⟩
  have := h.fnd_has e
  rw [hf] at this
  injection this with this
  subst this
  rw [e] at hu; cases hu
theorem has_uniq (h : Good l) {k : Key} {n m : Int} (h1 : has l k n) (h2 : has l k m) : n = m := by
  obtain ⟨i, e⟩ := h1
  obtain ⟨j, f⟩ := h2
  have := h.uniq (i := i) (j := j) (by rw [e]) (by rw [f]) (by rw [e, f])
  subst this
  rw [e] at f
  injection f
theorem get_has (h : Good l) {k : Key} {n : Int} (hh : has l k n) : get l k = (n, true) := by
  obtain ⟨i, e⟩ := hh
  unfold get
  rw [if_pos (right_iff.2 h), h.fnd_has e]
  simp [e]
theorem get_none (h : Good l) {k : Key} (hh : ∀ n, ¬ has l k n) : get l k = (0, false) := by
  unfold get
  rw [if_pos (right_iff.2 h)]
  obtain ⟨p, hp⟩ := h.found k
  rw [hp]
  cases hu : (at' l p).u
  · have := h.clean p (ends_of_fnd hp).1 hu
    simp [this, Cell.nil]
  · exact absurd ⟨p, h.fnd_used hp hu⟩ (hh _)
/-! ### put -/
theorem put_good (h : Good l) {k : Key} {n : Int} {p : Nat} (hk : right k = true) (hf : fnd l k = some p) (hu : (at' l p).u = false) (hm : many l + 1 < l.length) : Good (l.set p ⟨true, k, n⟩) := by
  have hE := ends_of_fnd hf
  have hp := hE.1
  have hl : (l.set p ⟨true, k, n⟩).length = l.length := by simp
  refine ⟨by rw [hl]; exact h.size, ?_, ?_, ?_, ?_⟩
  · have := many_set (l := l) (i := p) (c := ⟨true, k, n⟩) hp
    rw [hu] at this
    simp at this
    rw [hl]; omega
  · intro i hi hiu q hq hlt
    rw [hl] at hi hq hlt
    rw [at_set hp] at hiu hlt
    simp only [at_set hp]
    by_cases e : i = p
    · subst e
      simp only [if_true] at hlt ⊢
      have hne : q ≠ i := by rintro rfl; omega
      simp only [if_neg hne]
      exact stop_false.1 (hE.2.2 q hq hlt)
    · simp only [if_neg e] at hiu hlt ⊢
      have := h.path i hi hiu q hq hlt
      have hne : q ≠ p := by rintro rfl; rw [hu] at this; cases this.1
      simp only [if_neg hne]
      exact this
  · intro i hi hiu
    rw [at_set hp] at hiu ⊢
    by_cases e : i = p
    · simp only [if_pos e]; exact hk
    · simp only [if_neg e] at hiu ⊢; exact h.wf i (by simpa using hi) hiu
  · intro i hi hiu
    rw [at_set hp] at hiu ⊢
    by_cases e : i = p
    · simp [if_pos e] at hiu
    · simp only [if_neg e] at hiu ⊢; exact h.clean i (by simpa using hi) hiu
theorem put_has (h : Good l) {k : Key} {n : Int} {p : Nat} (hf : fnd l k = some p) (hu : (at' l p).u = false) (k' : Key) (n' : Int) : has (l.set p ⟨true, k, n⟩) k' n' ↔ has l k' n' ∨ (k' = k ∧ n' = n) := by
  have hp := (ends_of_fnd hf).1
  constructor
  · rintro ⟨i, e⟩
    rw [at_set hp] at e
    by_cases hi : i = p
    · rw [if_pos hi] at e
      injection e with _ e1 e2
      exact .inr ⟨e1.symm, e2.symm⟩
    · rw [if_neg hi] at e
      exact .inl ⟨i, e⟩
  · rintro (⟨i, e⟩ | ⟨rfl, rfl⟩)
    · refine ⟨i, ?_⟩
      rw [at_set hp, if_neg (by rintro rfl; rw [e] at hu; cases hu)]
      exact e
    · exact ⟨p, by rw [at_set hp, if_pos rfl]⟩
theorem put_many {k : Key} {n : Int} {p : Nat} (hp : p < l.length) (hu : (at' l p).u = false) : many (l.set p ⟨true, k, n⟩) = many l + 1 := by
  have := many_set (l := l) (i := p) (c := ⟨true, k, n⟩) hp
  rw [hu] at this
  simp at this
  omega
end Idx
end Go.Proofs.Ytdfbfhejigifoaa
