/- A table of keys without a list: looking for, putting, taking out. No program in sight. Taking a key out of the table: what follows moves up; the same as taking each out and putting it anew. No program in sight. The state of taking out, step by step. No program in sight. What the laws use of tables: put and taken out by what they have. No program in sight. -/
import Derived.RowKit
/-! ### A table of keys without a list: looking for, putting, taking out. No program in sight. -/
namespace Go.Proofs.Ytdboehogkmidbaa
set_option linter.unusedVariables false
set_option linter.unusedSectionVars false
namespace Idx
structure Key where
  pr : Int
  sr : Int
  sp : Int
  ds : Int
  dp : Int
deriving DecidableEq, Inhabited
structure Cell where
  u : Bool
  k : Key
  n : Int
deriving DecidableEq, Inhabited
def Key.nil : Key := ⟨0, 0, 0, 0, 0⟩
def Cell.nil : Cell := ⟨false, Key.nil, 0⟩
def Key.bytes (k : Key) : List Int := [k.pr % 256, k.sr / 16777216 % 256, k.sr / 65536 % 256, k.sr / 256 % 256, k.sr % 256, k.sp / 256 % 256, k.sp % 256, k.ds / 16777216 % 256, k.ds / 65536 % 256, k.ds / 256 % 256, k.ds % 256, k.dp / 256 % 256, k.dp % 256]
def mix (h c : Int) : Int := (Go.bits .xor .u32 h c * 16777619) % 4294967296
def hash (k : Key) : Int := k.bytes.foldl mix 2166136261
def right (k : Key) : Bool := decide (0 ≤ k.pr ∧ k.pr ≤ 255) && decide (0 ≤ k.sp ∧ k.sp ≤ 65535) && decide (0 ≤ k.dp ∧ k.dp ≤ 65535)
theorem mix_bd (h c : Int) : 0 ≤ mix h c ∧ mix h c < 4294967296 := by unfold mix; omega
theorem hash_bd (k : Key) : 0 ≤ hash k ∧ hash k < 4294967296 := by
  unfold hash Key.bytes
  simp only [List.foldl_cons, List.foldl_nil]
  exact mix_bd _ _
attribute [irreducible] hash
def home (N : Nat) (k : Key) : Nat := (hash k).toNat % N
/-- from a to b, round N places -/
def dist (N a b : Nat) : Nat := if a ≤ b then b - a else b + N - a
def adv (N a d : Nat) : Nat := (a + d) % N
def at' (l : List Cell) (i : Nat) : Cell := l.getD i Cell.nil
def stop (l : List Cell) (k : Key) (i : Nat) : Bool := !(at' l i).u || decide ((at' l i).k = k)
/-- the place where the search for a key ends -/
def fnd (l : List Cell) (k : Key) : Option Nat := ((List.range l.length).map (adv l.length (home l.length k))).find? (stop l k)
def many (l : List Cell) : Nat := l.countP (·.u)
def size (n : Int) : Bool := decide (n = 2 ∨ n = 4 ∨ n = 8 ∨ n = 16 ∨ n = 32 ∨ n = 64 ∨ n = 128 ∨ n = 256 ∨ n = 512 ∨ n = 1024)
def fine (l : List Cell) (i : Nat) : Bool := if (at' l i).u then decide (fnd l (at' l i).k = some i) && right (at' l i).k else decide (at' l i = Cell.nil)
def Right (l : List Cell) : Bool := size l.length && decide (many l < l.length) && (List.range l.length).all (fine l)
def get (l : List Cell) (k : Key) : Int × Bool :=
  if Right l then match fnd l k with
    | some i => ((at' l i).n, (at' l i).u)
    | none => (0, false)
  else (0, false)
/-- the table, and the error -/
def put (l : List Cell) (k : Key) (n : Int) : List Cell × Int :=
  if !(Right l && right k) then (l, 1)
  else match fnd l k with
    | some i => if (at' l i).u then (l, 10) else if many l + 1 = l.length then (l, 8) else (l.set i ⟨true, k, n⟩, 0)
    | none => (l, 0)
def delLoop : Nat → List Cell → Nat → Nat → List Cell
  | 0, out, hole, _ => out.set hole Cell.nil
  | f + 1, out, hole, a =>
    if (at' out a).u then
      if dist out.length hole a ≤ dist out.length (home out.length (at' out a).k) a then delLoop f (out.set hole (at' out a)) a (adv out.length a 1)
      else delLoop f out hole (adv out.length a 1)
    else out.set hole Cell.nil
def del (l : List Cell) (k : Key) : List Cell × Int :=
  if !Right l then (l, 1)
  else match fnd l k with
    | some i => if (at' l i).u then (delLoop l.length l i (adv l.length i 1), 0) else (l, 9)
    | none => (l, 9)
def rdelLoop : Nat → List Cell → Nat → List Cell
  | 0, out, _ => out
  | f + 1, out, i =>
    if (at' out i).u then
      let o1 := out.set i Cell.nil
      rdelLoop f (o1.set ((fnd o1 (at' out i).k).getD 0) (at' out i)) (adv out.length i 1)
    else out
/-! ### laws -/
variable {N : Nat} {l : List Cell}
theorem dist_lt {a b : Nat} (ha : a < N) (hb : b < N) : dist N a b < N := by unfold dist; split <;> omega
theorem dist_adv {a d : Nat} (ha : a < N) (hd : d < N) : dist N a (adv N a d) = d := by
  unfold dist adv
  by_cases h : a + d < N
  · rw [Nat.mod_eq_of_lt h, if_pos (by omega)]; omega
  · have : (a + d) % N = a + d - N := by
      rw [Nat.mod_eq_sub_mod (by omega), Nat.mod_eq_of_lt (by omega)]
    rw [this]
    split <;> omega
theorem adv_dist {a b : Nat} (ha : a < N) (hb : b < N) : adv N a (dist N a b) = b := by
  unfold adv dist
  split
  · rw [Nat.mod_eq_of_lt (by omega)]; omega
  · rw [Nat.mod_eq_sub_mod (by omega), Nat.mod_eq_of_lt (by omega)]; omega
theorem adv_lt {a d : Nat} (h : 0 < N) : adv N a d < N := Nat.mod_lt _ h
theorem home_lt (h : 0 < N) (k : Key) : home N k < N := Nat.mod_lt _ h
theorem adv_one {a : Nat} (ha : a < N) : adv N a 1 = if a + 1 < N then a + 1 else 0 := by
  unfold adv
  split
  · rw [Nat.mod_eq_of_lt (by omega)]
  · rw [show a + 1 = N by omega, Nat.mod_self]
/-- where the search ends -/
def Ends (l : List Cell) (k : Key) (p : Nat) : Prop :=
  p < l.length ∧ stop l k p = true ∧ ∀ q, q < l.length → dist l.length (home l.length k) q < dist l.length (home l.length k) p → stop l k q = false
theorem find_adv {N a : Nat} {f : Nat → Bool} {p : Nat} (hh : a < N) (h : ((List.range N).map (adv N a)).find? f = some p) : p < N ∧ f p = true ∧ ∀ q, q < N → dist N a q < dist N a p → f q = false := by
  rw [List.find?_eq_some_iff_append] at h
  obtain ⟨hp, as, bs, e, hn⟩ := h
  have hm : p ∈ (List.range N).map (adv N a) := by rw [e]; simp
  obtain ⟨d, hd, rfl⟩ := List.mem_map.1 hm
  rw [List.mem_range] at hd
  have h0 : 0 < N := by omega
  refine ⟨adv_lt h0, hp, fun q hq hlt => ?_⟩
  have hel : as.length = d := by
    have h1 : as.length < N := by
      have := congrArg List.length e
      simp at this; omega
    have h2 : ((List.range N).map (adv N a))[as.length]? = some (adv N a d) := by rw [e]; simp
    simp [h1] at h2
    have := congrArg (dist N a) h2
    rw [dist_adv hh h1, dist_adv hh hd] at this
    exact this
  rw [dist_adv hh hd] at hlt
  have hql := dist_lt hh hq
  have hqa : adv N a (dist N a q) = q := adv_dist hh hq
  have hmem : q ∈ as := by
    have h2 : ((List.range N).map (adv N a))[dist N a q]? = some q := by simp [hql, hqa]
    rw [e, List.getElem?_append_left (by omega)] at h2
    exact List.mem_of_getElem? h2
  have := hn q hmem
  simpa using this
theorem find_none {N a : Nat} {f : Nat → Bool} {p : Nat} (hh : a < N) (h : ((List.range N).map (adv N a)).find? f = none) (hp : p < N) : f p = false := by
  rw [List.find?_eq_none] at h
  have := h p (List.mem_map.2 ⟨_, List.mem_range.2 (dist_lt hh hp), adv_dist hh hp⟩)
  simpa using this
theorem fnd_pos {k : Key} {p : Nat} (h : fnd l k = some p) : 0 < l.length := by
  rcases Nat.eq_zero_or_pos l.length with h0 | h0
  · unfold fnd at h
    rw [h0] at h
    cases h
  · exact h0
theorem ends_of_fnd {k : Key} {p : Nat} (h : fnd l k = some p) : Ends l k p := find_adv (home_lt (fnd_pos h) k) h
theorem ends_uniq {k : Key} {p q : Nat} (hp : Ends l k p) (hq : Ends l k q) : p = q := by
  have h0 : 0 < l.length := by have := hp.1; omega
  have hh := home_lt h0 k
  have e : dist l.length (home l.length k) p = dist l.length (home l.length k) q := by
    rcases Nat.lt_trichotomy (dist l.length (home l.length k) p) (dist l.length (home l.length k) q) with h | h | h
    · have := hq.2.2 p hp.1 h
      rw [hp.2.1] at this; cases this
    · exact h
    · have := hp.2.2 q hq.1 h
      rw [hq.2.1] at this; cases this
  rw [← adv_dist hh hp.1, ← adv_dist hh hq.1, e]
theorem fnd_some {k : Key} {p : Nat} (h : Ends l k p) : fnd l k = some p := by
  have h0 : 0 < l.length := by have := h.1; omega
  cases hf : fnd l k with
  | none =>
    have := find_none (home_lt h0 k) hf h.1
    rw [h.2.1] at this; cases this
  | some q => rw [ends_uniq (ends_of_fnd hf) h]
theorem fnd_iff {k : Key} {p : Nat} : fnd l k = some p ↔ Ends l k p := ⟨ends_of_fnd, fnd_some⟩
theorem fnd_of_stop {k : Key} {p : Nat} (hp : p < l.length) (hs : stop l k p = true) : ∃ q, fnd l k = some q := by
  have h0 : 0 < l.length := by omega
  cases hf : fnd l k with
  | some q => exact ⟨q, rfl⟩
  | none =>
    have := find_none (home_lt h0 k) hf hp
    rw [hs] at this; cases this
theorem at_lt {i : Nat} (h : i < l.length) : at' l i = l[i] := by simp [at', h]
theorem at_used {i : Nat} (h : (at' l i).u = true) : i < l.length := by
  rcases Nat.lt_or_ge i l.length with h1 | h1
  · exact h1
  · simp [at', h1, Cell.nil] at h
theorem at_set {i j : Nat} {c : Cell} (hi : i < l.length) : at' (l.set i c) j = if j = i then c else at' l j := by
  unfold at'
  by_cases h : j = i
  · subst h; simp [hi]
  · rw [if_neg h, List.getD_eq_getElem?_getD, List.getElem?_set_ne (by omega), List.getD_eq_getElem?_getD]
theorem ext_at {a b : List Cell} (hl : a.length = b.length) (h : ∀ i, i < a.length → at' a i = at' b i) : a = b := by
  refine List.ext_getElem hl fun i h1 h2 => ?_
  rw [← at_lt h1, ← at_lt h2]; exact h i h1
/-- an empty place -/
theorem empty_of_many (h : many l < l.length) : ∃ e, e < l.length ∧ (at' l e).u = false := by
  apply Classical.byContradiction
  intro hn
  have : ∀ c ∈ l, c.u = true := by
    intro c hc
    obtain ⟨i, hi, rfl⟩ := List.getElem_of_mem hc
    rw [← at_lt hi]
    cases hu : (at' l i).u
    · exact absurd ⟨i, hi, hu⟩ hn
    · rfl
  have := (List.countP_eq_length (p := (·.u)) (l := l)).2 this
  unfold many at h
  omega
theorem many_set {c : Cell} : ∀ {l : List Cell} {i : Nat}, i < l.length → many (l.set i c) + (if (at' l i).u then 1 else 0) = many l + (if c.u then 1 else 0)
  | [], i, hi => by simp at hi
  | x :: t, 0, hi => by
    simp only [many, List.set_cons_zero, List.countP_cons, at', List.getD_cons_zero]
    cases x.u <;> cases c.u <;> simp
  | x :: t, i + 1, hi => by
    have := many_set (c := c) (l := t) (i := i) (by simpa using hi)
    have e1 : many ((x :: t).set (i + 1) c) = many (t.set i c) + (if x.u then 1 else 0) := by simp only [many, List.set_cons_succ, List.countP_cons]
    have e2 : many (x :: t) = many t + (if x.u then 1 else 0) := by simp only [many, List.countP_cons]
    have e3 : at' (x :: t) (i + 1) = at' t i := rfl
    rw [e1, e2, e3]
    omega
/-! ### a right table -/
structure Good (l : List Cell) : Prop where
  size : size l.length = true
  room : many l < l.length
  path : ∀ i, i < l.length → (at' l i).u = true → ∀ q, q < l.length → dist l.length (home l.length (at' l i).k) q < dist l.length (home l.length (at' l i).k) i → (at' l q).u = true ∧ (at' l q).k ≠ (at' l i).k
  wf : ∀ i, i < l.length → (at' l i).u = true → right (at' l i).k = true
  clean : ∀ i, i < l.length → (at' l i).u = false → at' l i = Cell.nil
theorem stop_false {k : Key} {q : Nat} : stop l k q = false ↔ (at' l q).u = true ∧ (at' l q).k ≠ k := by
  unfold stop
  cases (at' l q).u <;> simp
theorem stop_true {k : Key} {q : Nat} : stop l k q = true ↔ (at' l q).u = false ∨ (at' l q).k = k := by
  unfold stop
  cases (at' l q).u <;> simp
theorem right_iff : Right l = true ↔ Good l := by
  unfold Right
  simp only [Bool.and_eq_true, decide_eq_true_eq, List.all_eq_true, List.mem_range]
  constructor
  · rintro ⟨⟨h1, h2⟩, h3⟩
    have hc : ∀ i, i < l.length → (at' l i).u = true → Ends l (at' l i).k i ∧ right (at' l i).k = true := by
      intro i hi hu
      have := h3 i hi
      unfold fine at this
      rw [if_pos hu] at this
      simp only [Bool.and_eq_true, decide_eq_true_eq] at this
      exact ⟨fnd_iff.1 this.1, this.2⟩
    refine ⟨h1, h2, fun i hi hu q hq hlt => stop_false.1 ((hc i hi hu).1.2.2 q hq hlt), fun i hi hu => (hc i hi hu).2, fun i hi hu => ?_⟩
    have := h3 i hi
    unfold fine at this
    rw [if_neg (by simp [hu])] at this
    simpa using this
  · intro h
    refine ⟨⟨h.size, h.room⟩, fun i hi => ?_⟩
    unfold fine
    cases hu : (at' l i).u
    · simpa using h.clean i hi hu
    · simp only [if_true, Bool.and_eq_true, decide_eq_true_eq]
      refine ⟨fnd_some ⟨hi, ?_, fun q hq hlt => stop_false.2 (h.path i hi hu q hq hlt)⟩, h.wf i hi hu⟩
      rw [stop_true]; exact .inr rfl
theorem Good.pos (h : Good l) : 0 < l.length := by have := h.room; omega
theorem Good.ends (h : Good l) {i : Nat} (hu : (at' l i).u = true) : Ends l (at' l i).k i :=
  ⟨at_used hu, stop_true.2 (.inr rfl), fun q hq hlt => stop_false.2 (h.path i (at_used hu) hu q hq hlt)⟩
theorem Good.found (h : Good l) (k : Key) : ∃ p, fnd l k = some p := by
  obtain ⟨e, he, hu⟩ := empty_of_many h.room
  exact fnd_of_stop he (stop_true.2 (.inl hu))
theorem Good.uniq (h : Good l) {i j : Nat} (hi : (at' l i).u = true) (hj : (at' l j).u = true) (e : (at' l i).k = (at' l j).k) : i = j := by
  have h1 := h.ends hi
  have h2 := h.ends hj
  rw [e] at h1
  exact ends_uniq h1 h2
/-- the table has a key with a number -/
def has (l : List Cell) (k : Key) (n : Int) : Prop := ∃ i, at' l i = ⟨true, k, n⟩
theorem Good.fnd_has (h : Good l) {k : Key} {n : Int} {i : Nat} (e : at' l i = ⟨true, k, n⟩) : fnd l k = some i := by
  have := h.ends (i := i) (by rw [e])
  rw [e] at this
  exact fnd_some this
theorem Good.fnd_used (h : Good l) {k : Key} {p : Nat} (hf : fnd l k = some p) (hu : (at' l p).u = true) : at' l p = ⟨true, k, (at' l p).n⟩ := by
  have := (ends_of_fnd hf).2.1
  rw [stop_true, hu] at this
  rcases this with h1 | h1
  · cases h1
  · cases hc : at' l p with
    | mk u k' n => rw [hc] at hu h1; simp_all
theorem Good.fnd_free (h : Good l) {k : Key} {p : Nat} (hf : fnd l k = some p) (hu : (at' l p).u = false) (n : Int) : ¬ has l k n := by
  rintro ⟨i, e⟩
  have := h.fnd_has e
  rw [hf] at this
  injection this with this
  subst this
  rw [e] at hu; cases hu
theorem has_uniq (h : Good l) {k : Key} {n m : Int} (h1 : has l k n) (h2 : has l k m) : n = m := by
  obtain ⟨i, e⟩ := h1
  obtain ⟨j, f⟩ := h2
  have := h.uniq (i := i) (j := j) (by rw [e]) (by rw [f]) (by rw [e, f])
  subst this
  rw [e] at f
  injection f
theorem get_has (h : Good l) {k : Key} {n : Int} (hh : has l k n) : get l k = (n, true) := by
  obtain ⟨i, e⟩ := hh
  unfold get
  rw [if_pos (right_iff.2 h), h.fnd_has e]
  simp [e]
theorem get_none (h : Good l) {k : Key} (hh : ∀ n, ¬ has l k n) : get l k = (0, false) := by
  unfold get
  rw [if_pos (right_iff.2 h)]
  obtain ⟨p, hp⟩ := h.found k
  rw [hp]
  cases hu : (at' l p).u
  · have := h.clean p (ends_of_fnd hp).1 hu
    simp [this, Cell.nil]
  · exact absurd ⟨p, h.fnd_used hp hu⟩ (hh _)
/-! ### put -/
theorem put_good (h : Good l) {k : Key} {n : Int} {p : Nat} (hk : right k = true) (hf : fnd l k = some p) (hu : (at' l p).u = false) (hm : many l + 1 < l.length) : Good (l.set p ⟨true, k, n⟩) := by
  have hE := ends_of_fnd hf
  have hp := hE.1
  have hl : (l.set p ⟨true, k, n⟩).length = l.length := by simp
  refine ⟨by rw [hl]; exact h.size, ?_, ?_, ?_, ?_⟩
  · have := many_set (l := l) (i := p) (c := ⟨true, k, n⟩) hp
    rw [hu] at this
    simp at this
    rw [hl]; omega
  · intro i hi hiu q hq hlt
    rw [hl] at hi hq hlt
    rw [at_set hp] at hiu hlt
    simp only [at_set hp]
    by_cases e : i = p
    · subst e
      simp only [if_true] at hlt ⊢
      have hne : q ≠ i := by rintro rfl; omega
      simp only [if_neg hne]
      exact stop_false.1 (hE.2.2 q hq hlt)
    · simp only [if_neg e] at hiu hlt ⊢
      have := h.path i hi hiu q hq hlt
      have hne : q ≠ p := by rintro rfl; rw [hu] at this; cases this.1
      simp only [if_neg hne]
      exact this
  · intro i hi hiu
    rw [at_set hp] at hiu ⊢
    by_cases e : i = p
    · simp only [if_pos e]; exact hk
    · simp only [if_neg e] at hiu ⊢; exact h.wf i (by simpa using hi) hiu
  · intro i hi hiu
    rw [at_set hp] at hiu ⊢
    by_cases e : i = p
    · simp [if_pos e] at hiu
    · simp only [if_neg e] at hiu ⊢; exact h.clean i (by simpa using hi) hiu
theorem put_has (h : Good l) {k : Key} {n : Int} {p : Nat} (hf : fnd l k = some p) (hu : (at' l p).u = false) (k' : Key) (n' : Int) : has (l.set p ⟨true, k, n⟩) k' n' ↔ has l k' n' ∨ (k' = k ∧ n' = n) := by
  have hp := (ends_of_fnd hf).1
  constructor
  · rintro ⟨i, e⟩
    rw [at_set hp] at e
    by_cases hi : i = p
    · rw [if_pos hi] at e
      injection e with _ e1 e2
      exact .inr ⟨e1.symm, e2.symm⟩
    · rw [if_neg hi] at e
      exact .inl ⟨i, e⟩
  · rintro (⟨i, e⟩ | ⟨rfl, rfl⟩)
    · refine ⟨i, ?_⟩
      rw [at_set hp, if_neg (by rintro rfl; rw [e] at hu; cases hu)]
      exact e
    · exact ⟨p, by rw [at_set hp, if_pos rfl]⟩
theorem put_many {k : Key} {n : Int} {p : Nat} (hp : p < l.length) (hu : (at' l p).u = false) : many (l.set p ⟨true, k, n⟩) = many l + 1 := by
  have := many_set (l := l) (i := p) (c := ⟨true, k, n⟩) hp
  rw [hu] at this
  simp at this
  omega
end Idx
end Go.Proofs.Ytdboehogkmidbaa
/-! ### Taking a key out of the table: what follows moves up; the same as taking each out and putting it anew. No program in sight. -/
namespace Go.Proofs.Ytdboehogkmidbaa
set_option linter.unusedVariables false
namespace Idx
variable {l M : List Cell}
theorem dist_or (N a b : Nat) : (a ≤ b ∧ dist N a b = b - a) ∨ (b < a ∧ dist N a b = b + N - a) := by unfold dist; split <;> omega
theorem adv_or {N a : Nat} (ha : a < N) : (a + 1 < N ∧ adv N a 1 = a + 1) ∨ (a + 1 = N ∧ adv N a 1 = 0) := by rw [adv_one ha]; split <;> omega
structure DInv (l M : List Cell) (k : Key) (hole a e : Nat) : Prop where
  len : M.length = l.length
  size : size l.length = true
  hh : hole < l.length
  ha : a < l.length
  he : e < l.length
  hn : at' M hole = Cell.nil
  eu : (at' M e).u = false
  ene : e ≠ hole
  btw : 1 ≤ dist l.length hole a ∧ dist l.length hole a ≤ dist l.length hole e
  path : ∀ i, i < l.length → (at' M i).u = true → ∀ q, q < l.length → dist l.length (home l.length (at' M i).k) q < dist l.length (home l.length (at' M i).k) i →
    ((at' M q).u = true ∧ (at' M q).k ≠ (at' M i).k) ∨ (q = hole ∧ dist l.length hole a ≤ dist l.length hole i)
  uniq : ∀ i j, (at' M i).u = true → (at' M j).u = true → (at' M i).k = (at' M j).k → i = j
  wf : ∀ i, i < l.length → (at' M i).u = true → right (at' M i).k = true
  clean : ∀ i, i < l.length → (at' M i).u = false → at' M i = Cell.nil
  has : ∀ k' n', has M k' n' ↔ has l k' n' ∧ k' ≠ k
  many : many M + 1 = many l
theorem nil_u : Cell.nil.u = false := rfl
theorem del_start (h : Good l) {k : Key} {p : Nat} (hf : fnd l k = some p) (hu : (at' l p).u = true) : ∃ e, DInv l (l.set p Cell.nil) k p (adv l.length p 1) e := by
  obtain ⟨e, he, heu⟩ := empty_of_many h.room
  have hp := (ends_of_fnd hf).1
  have hne : e ≠ p := by rintro rfl; rw [hu] at heu; cases heu
  have hc := h.fnd_used hf hu
  have hA := adv_or hp
  have hd1 := dist_or l.length p (adv l.length p 1)
  have hd2 := dist_or l.length p e
  refine ⟨e, ?_⟩
  have hat : ∀ j, j ≠ p → at' (l.set p Cell.nil) j = at' l j := fun j hj => by rw [at_set hp, if_neg hj]
  have hatp : at' (l.set p Cell.nil) p = Cell.nil := by rw [at_set hp, if_pos rfl]
  have hne' : ∀ {i}, (at' (l.set p Cell.nil) i).u = true → i ≠ p := by
    intro i hi e'
    rw [e', hatp] at hi
    cases hi
  refine ⟨by simp, h.size, hp, by omega, he, hatp, by rw [hat e hne]; exact heu, hne, by omega, ?_, ?_, ?_, ?_, ?_, ?_⟩
  · intro i hi hiu q hq hlt
    have hip := hne' hiu
    rw [hat i hip] at hiu hlt ⊢
    have := h.path i hi hiu q hq hlt
    by_cases hqp : q = p
    · have := dist_or l.length p i
      exact .inr ⟨hqp, by omega⟩
    · rw [hat q hqp]; exact .inl this
  · intro i j hi hj hij
    have hi' := hne' hi
    have hj' := hne' hj
    rw [hat i hi'] at hi hij
    rw [hat j hj'] at hj hij
    exact h.uniq hi hj hij
  · intro i hi hiu
    have hi' := hne' hiu
    rw [hat i hi'] at hiu ⊢
    exact h.wf i hi hiu
  · intro i hi hiu
    by_cases hip : i = p
    · rw [hip]; exact hatp
    · rw [hat i hip] at hiu ⊢
      exact h.clean i hi hiu
  · intro k' n'
    constructor
    · rintro ⟨i, ei⟩
      have hip : i ≠ p := hne' (by rw [ei])
      rw [hat i hip] at ei
      refine ⟨⟨i, ei⟩, ?_⟩
      rintro rfl
      exact hip (h.uniq (by rw [ei]) hu (by rw [ei, hc]))
    · rintro ⟨⟨i, ei⟩, hk⟩
      refine ⟨i, ?_⟩
      rw [hat i]
      · exact ei
      · rintro rfl
        rw [hc] at ei
        injection ei with _ e1
        exact hk e1.symm
  · have := many_set (l := l) (c := Cell.nil) hp
    simp [hu, nil_u] at this
    omega
theorem del_end {k : Key} {hole a e : Nat} (h : DInv l M k hole a e) (hu : (at' M a).u = false) : Good M := by
  refine ⟨by rw [h.len]; exact h.size, ?_, ?_, ?_, ?_⟩
  · have : many l ≤ l.length := List.countP_le_length
    have := h.many
    rw [h.len]; omega
  · intro i hi hiu q hq hlt
    rw [h.len] at hi hq hlt
    rcases h.path i hi hiu q hq hlt with h1 | ⟨rfl, h2⟩
    · exact h1
    · exfalso
      have hia : i ≠ a := by rintro rfl; rw [hu] at hiu; cases hiu
      have hai := h.ha
      have hb := h.btw.1
      have hhl := home_lt (N := l.length) (by omega) (at' M i).k
      have d1 := dist_or l.length (home l.length (at' M i).k) q
      have d2 := dist_or l.length (home l.length (at' M i).k) i
      have d3 := dist_or l.length q a
      have d4 := dist_or l.length q i
      have d5 := dist_or l.length (home l.length (at' M i).k) a
      rcases h.path i hi hiu a h.ha (by omega) with h3 | ⟨h3, _⟩
      · rw [hu] at h3; cases h3.1
      · rw [h3] at hb; unfold dist at hb; simp at hb
  · intro i hi hiu; exact h.wf i (by rw [← h.len]; exact hi) hiu
  · intro i hi hiu; exact h.clean i (by rw [← h.len]; exact hi) hiu
theorem DInv.a_ne {k : Key} {hole a e : Nat} (h : DInv l M k hole a e) : a ≠ hole := by
  rintro rfl
  have := h.btw.1
  unfold dist at this; simp at this
theorem set_at {c : Cell} {i : Nat} (hi : i < M.length) (hc : at' M i = c) : M.set i c = M := by
  refine ext_at (by simp) fun j hj => ?_
  rw [at_set hi]
  split
  · rename_i e; rw [e, hc]
  · rfl
theorem del_move {k : Key} {hole a e : Nat} (h : DInv l M k hole a e) (hu : (at' M a).u = true) (hd : dist l.length hole a ≤ dist l.length (home l.length (at' M a).k) a) :
    fnd (M.set a Cell.nil) (at' M a).k = some hole ∧ DInv l ((M.set hole (at' M a)).set a Cell.nil) k a (adv l.length a 1) e := by
  have hae := h.a_ne
  have hha := h.ha
  have hhh := h.hh
  have hhe := h.he
  have hb := h.btw
  have hM : a < M.length := by rw [h.len]; exact h.ha
  have hMh : hole < M.length := by rw [h.len]; exact h.hh
  have hhl := home_lt (N := l.length) (by omega) (at' M a).k
  have hnea : e ≠ a := by rintro rfl; rw [h.eu] at hu; cases hu
  have hup : ∀ q, q < l.length → dist l.length (home l.length (at' M a).k) q < dist l.length (home l.length (at' M a).k) hole → (at' M q).u = true ∧ (at' M q).k ≠ (at' M a).k ∧ q ≠ a ∧ q ≠ hole := by
    intro q hq hlt
    have d1 := dist_or l.length (home l.length (at' M a).k) hole
    have d2 := dist_or l.length (home l.length (at' M a).k) a
    have d3 := dist_or l.length hole a
    have hqa : q ≠ a := by rintro rfl; omega
    have hqh : q ≠ hole := by rintro rfl; omega
    rcases h.path a h.ha hu q hq (by omega) with h1 | ⟨h1, _⟩
    · exact ⟨h1.1, h1.2, hqa, hqh⟩
    · exact absurd h1 hqh
  constructor
  · refine fnd_some ⟨by simpa using hMh, ?_, ?_⟩
    · rw [stop_true, at_set hM, if_neg (Ne.symm hae), h.hn]; exact .inl rfl
    · intro q hq hlt
      simp only [List.length_set, h.len] at hq hlt
      obtain ⟨h1, h2, h3, _⟩ := hup q hq hlt
      rw [stop_false, at_set hM, if_neg h3]
      exact ⟨h1, h2⟩
  · obtain ⟨c, hc⟩ : ∃ c, c = at' M a := ⟨_, rfl⟩
    rw [← hc] at hu hd hup ⊢
    have hl1 : ((M.set hole c).set a Cell.nil).length = l.length := by simp [h.len]
    have hat : ∀ j, at' ((M.set hole c).set a Cell.nil) j = if j = a then Cell.nil else if j = hole then c else at' M j := by
      intro j
      rw [at_set (by simpa using hM)]
      split
      · rfl
      · rw [at_set hMh]
    have hA := adv_or hha
    have e1 := dist_or l.length a (adv l.length a 1)
    have e2 := dist_or l.length a e
    refine ⟨hl1, h.size, h.ha, by omega, h.he, by rw [hat, if_pos rfl], by rw [hat, if_neg hnea, if_neg h.ene]; exact h.eu, hnea, by omega, ?_, ?_, ?_, ?_, ?_, ?_⟩
    · intro i hi hiu q hq hlt
      have hia : i ≠ a := by rintro rfl; rw [hat, if_pos rfl] at hiu; cases hiu
      have e3 := dist_or l.length a i
      by_cases hih : i = hole
      · subst hih
        have hi1 : at' ((M.set i c).set a Cell.nil) i = c := by rw [hat, if_neg hia, if_pos rfl]
        rw [hi1] at hlt ⊢
        obtain ⟨h1, h2, h3, h4⟩ := hup q hq hlt
        rw [hat, if_neg h3, if_neg h4]
        exact .inl ⟨h1, h2⟩
      · have hi1 : at' ((M.set hole c).set a Cell.nil) i = at' M i := by rw [hat, if_neg hia, if_neg hih]
        rw [hi1] at hlt hiu ⊢
        by_cases hqa : q = a
        · exact .inr ⟨hqa, by omega⟩
        · rw [hat, if_neg hqa]
          by_cases hqh : q = hole
          · rw [if_pos hqh]
            refine .inl ⟨hu, fun ek => hia ?_⟩
            exact (h.uniq a i (by rw [← hc]; exact hu) hiu (by rw [← hc]; exact ek)).symm
          · rw [if_neg hqh]
            rcases h.path i hi hiu q hq hlt with h1 | ⟨h1, _⟩
            · exact .inl h1
            · exact absurd h1 hqh
    · have key : ∀ i, (at' ((M.set hole c).set a Cell.nil) i).u = true → ∃ i', (at' M i').u = true ∧ (at' M i').k = (at' ((M.set hole c).set a Cell.nil) i).k ∧ ((i = hole ∧ i' = a) ∨ (i ≠ hole ∧ i' = i ∧ i ≠ a)) := by
        intro i hi
        have hia : i ≠ a := by rintro rfl; rw [hat, if_pos rfl] at hi; cases hi
        rw [hat, if_neg hia] at hi ⊢
        by_cases hih : i = hole
        · rw [if_pos hih] at hi ⊢
          exact ⟨a, by rw [← hc]; exact hi, by rw [← hc], .inl ⟨hih, rfl⟩⟩
        · rw [if_neg hih] at hi ⊢
          exact ⟨i, hi, rfl, .inr ⟨hih, rfl, hia⟩⟩
      intro i j hi hj hij
      obtain ⟨i', i1, i2, i3⟩ := key i hi
      obtain ⟨j', j1, j2, j3⟩ := key j hj
      have := h.uniq i' j' i1 j1 (by rw [i2, j2, hij])
      omega
    · intro i hi hiu
      rw [hat] at hiu ⊢
      by_cases hia : i = a
      · rw [if_pos hia] at hiu; cases hiu
      · rw [if_neg hia] at hiu ⊢
        by_cases hih : i = hole
        · rw [if_pos hih, hc]; exact h.wf a h.ha (by rw [← hc]; exact hu)
        · rw [if_neg hih] at hiu ⊢; exact h.wf i hi hiu
    · intro i hi hiu
      rw [hat] at hiu ⊢
      by_cases hia : i = a
      · rw [if_pos hia]
      · rw [if_neg hia] at hiu ⊢
        by_cases hih : i = hole
        · rw [if_pos hih, hu] at hiu; cases hiu
        · rw [if_neg hih] at hiu ⊢; exact h.clean i hi hiu
    · intro k' n'
      rw [← h.has k' n']
      constructor
      · rintro ⟨i, ei⟩
        rw [hat] at ei
        by_cases hia : i = a
        · rw [if_pos hia] at ei; cases ei
        · rw [if_neg hia] at ei
          by_cases hih : i = hole
          · rw [if_pos hih] at ei; exact ⟨a, by rw [← hc]; exact ei⟩
          · rw [if_neg hih] at ei; exact ⟨i, ei⟩
      · rintro ⟨i, ei⟩
        by_cases hia : i = a
        · refine ⟨hole, ?_⟩
          rw [hat, if_neg (Ne.symm hae), if_pos rfl, hc, ← hia]; exact ei
        · refine ⟨i, ?_⟩
          rw [hat, if_neg hia, if_neg]
          · exact ei
          · rintro rfl; rw [h.hn] at ei; cases ei
    · have m1 := many_set (l := M) (c := c) hMh
      have m2 := many_set (l := M.set hole c) (i := a) (c := Cell.nil) (by simpa using hM)
      rw [at_set hMh, if_neg hae, ← hc] at m2
      simp [h.hn, hu, nil_u] at m1 m2
      have := h.many
      omega
theorem del_stay {k : Key} {hole a e : Nat} (h : DInv l M k hole a e) (hu : (at' M a).u = true) (hd : dist l.length (home l.length (at' M a).k) a < dist l.length hole a) :
    fnd (M.set a Cell.nil) (at' M a).k = some a ∧ DInv l M k hole (adv l.length a 1) e := by
  have hae := h.a_ne
  have hha := h.ha
  have hhh := h.hh
  have hhe := h.he
  have hb := h.btw
  have hM : a < M.length := by rw [h.len]; exact h.ha
  have hhl := home_lt (N := l.length) (by omega) (at' M a).k
  have hnea : e ≠ a := by rintro rfl; rw [h.eu] at hu; cases hu
  have hup : ∀ q, q < l.length → dist l.length (home l.length (at' M a).k) q < dist l.length (home l.length (at' M a).k) a → (at' M q).u = true ∧ (at' M q).k ≠ (at' M a).k ∧ q ≠ a ∧ q ≠ hole := by
    intro q hq hlt
    have d1 := dist_or l.length (home l.length (at' M a).k) hole
    have d2 := dist_or l.length (home l.length (at' M a).k) a
    have d3 := dist_or l.length hole a
    have hqa : q ≠ a := by rintro rfl; omega
    have hqh : q ≠ hole := by rintro rfl; omega
    rcases h.path a h.ha hu q hq hlt with h1 | ⟨h1, _⟩
    · exact ⟨h1.1, h1.2, hqa, hqh⟩
    · exact absurd h1 hqh
  constructor
  · refine fnd_some ⟨by simpa using hM, ?_, ?_⟩
    · rw [stop_true, at_set hM, if_pos rfl]; exact .inl rfl
    · intro q hq hlt
      simp only [List.length_set, h.len] at hq hlt
      obtain ⟨h1, h2, h3, _⟩ := hup q hq hlt
      rw [stop_false, at_set hM, if_neg h3]
      exact ⟨h1, h2⟩
  · have hA := adv_or hha
    have e1 := dist_or l.length hole a
    have e2 := dist_or l.length hole (adv l.length a 1)
    have e3 := dist_or l.length hole e
    refine ⟨h.len, h.size, h.hh, by omega, h.he, h.hn, h.eu, h.ene, by omega, ?_, h.uniq, h.wf, h.clean, h.has, h.many⟩
    intro i hi hiu q hq hlt
    by_cases hia : i = a
    · subst hia
      obtain ⟨h1, h2, _, _⟩ := hup q hq hlt
      exact .inl ⟨h1, h2⟩
    · rcases h.path i hi hiu q hq hlt with h1 | ⟨h1, h2⟩
      · exact .inl h1
      · have e4 := dist_or l.length hole i
        exact .inr ⟨h1, by omega⟩
def DelR (l R : List Cell) (k : Key) : Prop := Good R ∧ (∀ k' n', has R k' n' ↔ has l k' n' ∧ k' ≠ k) ∧ many R + 1 = many l ∧ R.length = l.length
theorem del_loop {k : Key} {e : Nat} : ∀ (f : Nat) (out M : List Cell) (hole a : Nat), DInv l M k hole a e → out.length = l.length → out.set hole Cell.nil = M → dist l.length a e < f →
    delLoop f out hole a = rdelLoop f M a ∧ DelR l (rdelLoop f M a) k
  | 0, _, _, _, _, _, _, _, h => by omega
  | f + 1, out, M, hole, a, h, hl, hM, hf => by
    have hae := h.a_ne
    have hha := h.ha
    have hhh := h.hh
    have hhe := h.he
    have hb := h.btw
    have hoM : at' out a = at' M a := by rw [← hM, at_set (by omega), if_neg hae]
    unfold delLoop rdelLoop
    rw [hoM]
    cases hu : (at' M a).u
    · simp only [Bool.false_eq_true, if_false]
      exact ⟨hM, del_end h hu, h.has, h.many, h.len⟩
    · simp only [if_true]
      rw [hl, h.len]
      have hnea : e ≠ a := by rintro rfl; rw [h.eu] at hu; cases hu
      have hA := adv_or hha
      have e1 := dist_or l.length (adv l.length a 1) e
      have e2 := dist_or l.length a e
      by_cases hd : dist l.length hole a ≤ dist l.length (home l.length (at' M a).k) a
      · rw [if_pos hd]
        obtain ⟨h1, h2⟩ := del_move h hu hd
        rw [h1]
        have e3 : (M.set a Cell.nil).set ((some hole).getD 0) (at' M a) = (M.set hole (at' M a)).set a Cell.nil := by
          simp only [Option.getD_some]
          rw [List.set_comm _ _ hae]
        rw [e3]
        refine del_loop f _ _ _ _ h2 (by simpa using hl) ?_ (by omega)
        rw [← hM]
        rw [List.set_set]
      · rw [if_neg hd]
        obtain ⟨h1, h2⟩ := del_stay h hu (by omega)
        rw [h1]
        have e3 : (M.set a Cell.nil).set ((some a).getD 0) (at' M a) = M := by
          simp only [Option.getD_some, List.set_set]
          exact set_at (by rw [h.len]; exact hha) rfl
        rw [e3]
        exact del_loop f _ _ _ _ h2 hl hM (by omega)
/-- both ways of taking out are the same -/
theorem del_eq (h : Good l) {k : Key} {p : Nat} (hf : fnd l k = some p) (hu : (at' l p).u = true) :
    delLoop l.length l p (adv l.length p 1) = rdelLoop l.length (l.set p Cell.nil) (adv l.length p 1) ∧ DelR l (rdelLoop l.length (l.set p Cell.nil) (adv l.length p 1)) k := by
  obtain ⟨e, hD⟩ := del_start h hf hu
  exact del_loop l.length l _ _ _ hD rfl rfl (dist_lt hD.ha hD.he)
/-- put, and taken out at once -/
theorem del_put_loop (h : Good l) {p e : Nat} {c : Cell} (hp : p < l.length) (hu : (at' l p).u = false) (he : e < l.length) (heu : (at' l e).u = false) (hne : e ≠ p) :
    ∀ (f : Nat) (a : Nat), a < l.length → 1 ≤ dist l.length p a → dist l.length p a ≤ dist l.length p e → dist l.length a e < f → delLoop f (l.set p c) p a = (l.set p c).set p Cell.nil
  | 0, _, _, _, _, hf => by omega
  | f + 1, a, ha, h1, h2, hf => by
    have hap : a ≠ p := by rintro rfl; unfold dist at h1; simp at h1
    unfold delLoop
    rw [at_set hp, if_neg hap]
    cases hau : (at' l a).u
    · simp
    · simp only [if_true, List.length_set]
      have hea : a ≠ e := by rintro rfl; rw [hau] at heu; cases heu
      have hhl := home_lt (N := l.length) (by omega) (at' l a).k
      have d1 := dist_or l.length (home l.length (at' l a).k) p
      have d2 := dist_or l.length (home l.length (at' l a).k) a
      have d3 := dist_or l.length p a
      rw [if_neg]
      · have hA := adv_or ha
        have e1 := dist_or l.length (adv l.length a 1) e
        have e2 := dist_or l.length a e
        have e3 := dist_or l.length p e
        have e4 := dist_or l.length p (adv l.length a 1)
        exact del_put_loop h hp hu he heu hne f _ (by omega) (by omega) (by omega) (by omega)
      · intro hle
        have := h.path a ha hau p hp (by omega)
        rw [hu] at this
        cases this.1
theorem del_put (h : Good l) {k : Key} {n : Int} {p : Nat} (hk : right k = true) (hf : fnd l k = some p) (hu : (at' l p).u = false) (hm : many l + 1 < l.length) :
    del (l.set p ⟨true, k, n⟩) k = (l, 0) := by
  have hp := (ends_of_fnd hf).1
  have hg := put_good (n := n) h hk hf hu hm
  have hf' : fnd (l.set p ⟨true, k, n⟩) k = some p := hg.fnd_has (n := n) (by rw [at_set hp, if_pos rfl])
  unfold del
  rw [right_iff.2 hg, hf']
  simp only [Bool.not_true, Bool.false_eq_true, if_false, at_set hp, if_true, List.length_set]
  obtain ⟨e, he, heu⟩ := empty_of_many (l := l.set p ⟨true, k, n⟩) hg.room
  rw [List.length_set] at he
  have hep : e ≠ p := by rintro rfl; rw [at_set hp, if_pos rfl] at heu; cases heu
  rw [at_set hp, if_neg hep] at heu
  have hA := adv_or hp
  have d1 := dist_or l.length p (adv l.length p 1)
  have d2 := dist_or l.length p e
  rw [del_put_loop h hp hu he heu hep l.length _ (by omega) (by omega) (by omega) (dist_lt (by omega) he), List.set_set, set_at hp (h.clean p hp hu)]
end Idx
end Go.Proofs.Ytdboehogkmidbaa
/-! ### The state of taking out, step by step. No program in sight. -/
namespace Go.Proofs.Ytdboehogkmidbaa
set_option linter.unusedVariables false
namespace Idx
variable {l out : List Cell}
structure DSt (l : List Cell) (k : Key) (e f : Nat) (out : List Cell) (hole a : Nat) : Prop where
  inv : DInv l (out.set hole Cell.nil) k hole a e
  len : out.length = l.length
  fuel : dist l.length a e < f
theorem DSt.start (h : Good l) {k : Key} {p : Nat} (hf : fnd l k = some p) (hu : (at' l p).u = true) : ∃ e, DSt l k e l.length l p (adv l.length p 1) := by
  obtain ⟨e, hD⟩ := del_start h hf hu
  exact ⟨e, hD, rfl, dist_lt hD.ha hD.he⟩
theorem DSt.at_eq {k : Key} {e f hole a : Nat} (h : DSt l k e f out hole a) : at' (out.set hole Cell.nil) a = at' out a := by
  rw [at_set (by rw [h.len]; exact h.inv.hh), if_neg h.inv.a_ne]
theorem DSt.stop {k : Key} {e f hole a : Nat} (h : DSt l k e f out hole a) (hu : (at' out a).u = false) : delLoop f out hole a = out.set hole Cell.nil := by
  cases f with
  | zero => rfl
  | succ f => unfold delLoop; rw [hu]; rfl
theorem DSt.move {k : Key} {e f hole a : Nat} (h : DSt l k e f out hole a) (hu : (at' out a).u = true) (hd : dist l.length hole a ≤ dist l.length (home l.length (at' out a).k) a) :
    ∃ f', f = f' + 1 ∧ DSt l k e f' (out.set hole (at' out a)) a (adv l.length a 1) ∧ delLoop f out hole a = delLoop f' (out.set hole (at' out a)) a (adv l.length a 1) := by
  have hi := h.inv
  have hae := hi.a_ne
  have hha := hi.ha
  have hhe := hi.he
  have he := h.at_eq
  have hnea : e ≠ a := by rintro rfl; have := hi.eu; rw [he, hu] at this; cases this
  have hf := h.fuel
  cases f with
  | zero => omega
  | succ f =>
    obtain ⟨h1, h2⟩ := del_move hi (by rw [he]; exact hu) (by rw [he]; exact hd)
    have hA := adv_or hha
    have e1 := dist_or l.length (adv l.length a 1) e
    have e2 := dist_or l.length a e
    refine ⟨f, rfl, ⟨?_, by simpa using h.len, by omega⟩, ?_⟩
    · rw [he, List.set_set] at h2
      exact h2
    · conv => lhs; unfold delLoop
      rw [if_pos hu, h.len, if_pos hd]
theorem DSt.stay {k : Key} {e f hole a : Nat} (h : DSt l k e f out hole a) (hu : (at' out a).u = true) (hd : ¬ dist l.length hole a ≤ dist l.length (home l.length (at' out a).k) a) :
    ∃ f', f = f' + 1 ∧ DSt l k e f' out hole (adv l.length a 1) ∧ delLoop f out hole a = delLoop f' out hole (adv l.length a 1) := by
  have hi := h.inv
  have hae := hi.a_ne
  have hha := hi.ha
  have hhe := hi.he
  have he := h.at_eq
  have hnea : e ≠ a := by rintro rfl; have := hi.eu; rw [he, hu] at this; cases this
  have hf := h.fuel
  cases f with
  | zero => omega
  | succ f =>
    obtain ⟨h1, h2⟩ := del_stay hi (by rw [he]; exact hu) (by rw [he]; omega)
    have hA := adv_or hha
    have e1 := dist_or l.length (adv l.length a 1) e
    have e2 := dist_or l.length a e
    refine ⟨f, rfl, ⟨h2, h.len, by omega⟩, ?_⟩
    · conv => lhs; unfold delLoop
      rw [if_pos hu, h.len, if_neg hd]
theorem dist_int {N a b : Nat} (ha : a < N) (hb : b < N) : ((b : Int) - (a : Int)) % (N : Int) = (dist N a b : Int) := by
  rcases dist_or N a b with ⟨h1, h2⟩ | ⟨h1, h2⟩
  · rw [h2, Int.emod_eq_of_lt (by omega) (by omega)]; omega
  · rw [h2]
    have : (b : Int) - a = (b : Int) - a + N + N * (-1) := by omega
    rw [this, Int.add_mul_emod_self_left, Int.emod_eq_of_lt (by omega) (by omega)]; omega
theorem del_a {k : Key} (h : Right l = false) : del l k = (l, 1) := by unfold del; rw [h]; rfl
theorem del_b {k : Key} {p : Nat} (h : Right l = true) (hf : fnd l k = some p) (hu : (at' l p).u = false) : del l k = (l, 9) := by unfold del; rw [h, hf]; simp [hu]
theorem del_c {k : Key} {p : Nat} (h : Right l = true) (hf : fnd l k = some p) (hu : (at' l p).u = true) : del l k = (delLoop l.length l p (adv l.length p 1), 0) := by unfold del; rw [h, hf]; simp [hu]
end Idx
end Go.Proofs.Ytdboehogkmidbaa
/-! ### What the laws use of tables: put and taken out by what they have. No program in sight. -/
namespace Go.Proofs.Ytdboehogkmidbaa
set_option linter.unusedVariables false
namespace Idx
variable {l : List Cell}
theorem at_rep {n i : Nat} : at' (List.replicate n Cell.nil) i = Cell.nil := by
  unfold at'
  by_cases h : i < n
  · simp [h]
  · simp [h]
theorem many_rep (n : Nat) : many (List.replicate n Cell.nil) = 0 := by
  unfold many
  rw [List.countP_eq_zero]
  intro c hc
  rw [List.eq_of_mem_replicate hc]
  decide
theorem good_new {n : Nat} (h : size n = true) : Good (List.replicate n Cell.nil) := by
  have hn : 0 < n := by
    rcases Nat.eq_zero_or_pos n with h0 | h0
    · subst h0; cases h
    · exact h0
  refine ⟨by simpa using h, by rw [many_rep]; simpa using hn, ?_, ?_, ?_⟩
  · intro i hi hu; rw [at_rep] at hu; cases hu
  · intro i hi hu; rw [at_rep] at hu; cases hu
  · intro i hi _; exact at_rep
theorem has_new {n : Nat} {k : Key} {v : Int} : ¬ has (List.replicate n Cell.nil) k v := by
  rintro ⟨i, e⟩; rw [at_rep] at e; cases e
def PutOk (l R : List Cell) (k : Key) (n : Int) : Prop := Good R ∧ (∀ k' n', has R k' n' ↔ has l k' n' ∨ (k' = k ∧ n' = n)) ∧ many R = many l + 1 ∧ R.length = l.length
theorem put_ok (h : Good l) {k : Key} {n : Int} (hk : right k = true) (hno : ∀ v, ¬ has l k v) (hm : many l + 1 < l.length) : ∃ R, put l k n = (R, 0) ∧ PutOk l R k n := by
  obtain ⟨p, hp⟩ := h.found k
  have hpl := (ends_of_fnd hp).1
  cases hu : (at' l p).u
  · refine ⟨l.set p ⟨true, k, n⟩, ?_, put_good h hk hp hu hm, put_has h hp hu, put_many hpl hu, by simp⟩
    unfold put
    rw [right_iff.2 h, hk, hp]
    simp [hu]; omega
  · exact absurd ⟨p, h.fnd_used hp hu⟩ (hno _)
theorem put_twice (h : Good l) {k : Key} {n v : Int} (hk : right k = true) (hh : has l k v) : put l k n = (l, 10) := by
  obtain ⟨i, e⟩ := hh
  unfold put
  rw [right_iff.2 h, hk, h.fnd_has e]
  simp [e]
theorem put_full (h : Good l) {k : Key} {n : Int} (hk : right k = true) (hno : ∀ v, ¬ has l k v) (hm : many l + 1 = l.length) : put l k n = (l, 8) := by
  obtain ⟨p, hp⟩ := h.found k
  cases hu : (at' l p).u
  · unfold put
    rw [right_iff.2 h, hk, hp]
    simp [hu, hm]
  · exact absurd ⟨p, h.fnd_used hp hu⟩ (hno _)
theorem put_wrong {k : Key} {n : Int} (hk : right k = false) : put l k n = (l, 1) := by unfold put; rw [hk]; simp
theorem del_ok (h : Good l) {k : Key} {v : Int} (hh : has l k v) : ∃ R, del l k = (R, 0) ∧ DelR l R k := by
  obtain ⟨i, e⟩ := hh
  have hf := h.fnd_has e
  have hu : (at' l i).u = true := by rw [e]
  obtain ⟨h1, h2⟩ := del_eq h hf hu
  refine ⟨_, ?_, h2⟩
  unfold del
  rw [right_iff.2 h, hf]
  simp only [Bool.not_true, Bool.false_eq_true, if_false, hu, if_true, h1]
theorem del_none (h : Good l) {k : Key} (hh : ∀ v, ¬ has l k v) : del l k = (l, 9) := by
  obtain ⟨p, hp⟩ := h.found k
  cases hu : (at' l p).u
  · unfold del
    rw [right_iff.2 h, hp]
    simp [hu]
  · exact absurd ⟨p, h.fnd_used hp hu⟩ (hh _)
theorem right_of (h : Good l) : Right l = true := right_iff.2 h
/-- the fixed answers -/
theorem aw {k : Key} (hk : right k = true) : ∃ R S, put (List.replicate 4 Cell.nil) k 7 = (R, 0) ∧ R.length = 4 ∧ get R k = (7, true) ∧ many R = 1 ∧ del R k = (S, 0) ∧ many S = 0 ∧ S.length = 4 := by
  have hg : Good (List.replicate 4 Cell.nil) := good_new (by decide)
  obtain ⟨R, h1, h2, h3, h4, h5⟩ := put_ok (n := 7) hg hk (fun v => has_new) (by rw [many_rep]; decide)
  have hh : has R k 7 := (h3 k 7).2 (.inr ⟨rfl, rfl⟩)
  obtain ⟨S, h6, h7, h8, h9, h10⟩ := del_ok h2 hh
  rw [many_rep] at h4
  exact ⟨R, S, h1, by rw [h5]; simp, get_has h2 hh, h4, h6, by omega, by rw [h10, h5]; simp⟩
/-- put, and taken out at once: by the answers -/
theorem back {l R : List Cell} {k : Key} {n : Int} (h : put l k n = (R, 0)) : del R k = (l, 0) ∧ get l k = (0, false) := by
  unfold put at h
  cases hr : Right l
  · rw [hr] at h; simp at h
  · cases hk : right k
    · rw [hk] at h; simp at h
    · have hg := right_iff.1 hr
      obtain ⟨p, hp⟩ := hg.found k
      rw [hr, hk, hp] at h
      simp only [Bool.and_self, Bool.not_true, Bool.false_eq_true, if_false] at h
      cases hu : (at' l p).u
      · rw [hu] at h
        simp only [Bool.false_eq_true, if_false] at h
        by_cases hm : many l + 1 = l.length
        · rw [if_pos hm] at h; simp at h
        · rw [if_neg hm] at h
          have := hg.room
          injection h with h
          rw [← h]
          exact ⟨del_put hg hk hp hu (by omega), get_none hg (fun v => hg.fnd_free hp hu v)⟩
      · rw [hu] at h; simp at h
theorem put_err {l R : List Cell} {k : Key} {n e : Int} (h : put l k n = (R, e)) (he : e ≠ 0) : R = l := by
  unfold put at h
  split at h
  · injection h with h; exact h.symm
  · split at h
    · split at h
      · injection h with h; exact h.symm
      · split at h
        · injection h with h; exact h.symm
        · injection h with _ h; omega
    · injection h with h; exact h.symm
theorem put_len (l : List Cell) (k : Key) (n : Int) : (put l k n).1.length = l.length := by
  unfold put
  split
  · rfl
  · split
    · split
      · rfl
      · split
        · rfl
        · simp
    · rfl
theorem put_bd (l : List Cell) (k : Key) (n : Int) : 0 ≤ (put l k n).2 ∧ (put l k n).2 ≤ 100 := by
  have e : ∀ (m : List Cell) (x : Int), 0 ≤ x ∧ x ≤ 100 → 0 ≤ (m, x).2 ∧ (m, x).2 ≤ 100 := fun m x h => h
  unfold put
  split
  · exact e _ _ (by decide)
  · split
    · split
      · exact e _ _ (by decide)
      · split
        · exact e _ _ (by decide)
        · exact e _ _ (by decide)
    · exact e _ _ (by decide)
end Idx
end Go.Proofs.Ytdboehogkmidbaa
