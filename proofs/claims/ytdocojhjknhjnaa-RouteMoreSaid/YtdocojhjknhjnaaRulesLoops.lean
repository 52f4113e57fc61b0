/- The walks of slices.IndexFunc and ContainsFunc at api.Rule, of rules.Right and rules.Ask. -/
import Derived.Test.YtdocojhjknhjnaaRulesFits
import Derived.Deep.LoopGhost
import Derived.Shelf.Abstract
namespace Go.Proofs.Ytdocojhjknhjnaa
open Go.RowKit
set_option linter.unusedVariables false
/-- What is asked of a closure: from w on it says p, and makes memory of its own alone. -/
def PredR (g : Nat) (lb : Array Value) (p : Rules.Rule → Bool) (ok : Rules.Rule → Prop) (w : World) : Prop :=
  ∀ (W : World) (r : Rules.Rule), ok r → Below w.heap.size w W → Calls Try.prog g (#[.agg #[.int .i64 r.fr, .int .i64 r.to, .int .i64 r.proto, .int .u32 r.src, .int .u32 r.dst, .int .i64 r.sb, .int .i64 r.db, .int .i64 r.lo, .int .i64 r.hi, .int .i64 r.act]] ++ lb) W fun e w' => e = .returned (.bool (p r)) ∧ Below W.heap.size W w'
def rcells (l : List Rules.Rule) : List Value := l.flatMap Rules.Rule.cells
/-- the first place where p holds, or -1 -/
def idx (p : Rules.Rule → Bool) : List Rules.Rule → Int
  | [] => -1
  | r :: t => if p r then 0 else if idx p t < 0 then -1 else 1 + idx p t
theorem rcells_get : ∀ (l : List Rules.Rule) (k i : Nat) (v : Value), k < l.length → (l[k]!).cells[i]? = some v → (rcells l)[k * 10 + i]? = some v := by
  intro l
  induction l with
  | nil => intro k i v h; simp at h
  | cons r t ih =>
    intro k i v hk hv
    have hc : r.cells.length = 10 := rfl
    match k with
    | 0 =>
      have hi : i < 10 := by
        have := (List.getElem?_eq_some_iff.1 hv).1
        exact this
      simp only [rcells, List.flatMap_cons]
      rw [List.getElem?_append_left (by rw [hc]; omega)]
      simpa using hv
    | k + 1 =>
      simp only [rcells, List.flatMap_cons]
      rw [List.getElem?_append_right (by rw [hc]; omega), hc]
      have := ih k i v (by simpa using hk) (by simpa using hv)
      rw [show (k + 1) * 10 + i - 10 = k * 10 + i by omega]
      exact this
theorem idx_miss (p : Rules.Rule → Bool) : ∀ (l : List Rules.Rule), (∀ j, j < l.length → p l[j]! = false) → idx p l = -1 := by
  intro l
  induction l with
  | nil => intro _; rfl
  | cons r t ih =>
    intro h
    have h0 := h 0 (by simp)
    have h1 := ih (fun j hj => by have := h (j + 1) (by simp; omega); simpa using this)
    simp only [idx]
    simp at h0
    rw [h0, h1]; rfl
theorem idx_hit (p : Rules.Rule → Bool) : ∀ (l : List Rules.Rule) (k : Nat), k < l.length → p l[k]! = true → (∀ j, j < k → p l[j]! = false) → idx p l = k := by
  intro l
  induction l with
  | nil => intro k h; simp at h
  | cons r t ih =>
    intro k hk hp h
    match k with
    | 0 => simp at hp; simp [idx, hp]
    | k + 1 =>
      have h0 := h 0 (by omega)
      have h1 := ih k (by simpa using hk) (by simpa using hp) (fun j hj => by have := h (j + 1) (by omega); simpa using this)
      simp at h0
      simp only [idx]
      rw [h0, h1]
      simp only [Bool.false_eq_true, if_false]
      rw [if_neg (by omega)]
      omega
def RCells10 (W : World) (b off : Nat) (r : Rules.Rule) : Prop := b < W.heap.size ∧ ∀ (i : Nat) (v : Value), r.cells[i]? = some v → W.cell? ⟨b, off + i, none⟩ = some v
theorem RCells10.ten {w : World} {b off : Nat} {r : Rules.Rule} (H : RCells10 w b off r) : w.cell? ⟨b, off, none⟩ = some (.int .i64 r.fr) ∧ w.cell? ⟨b, off + 1, none⟩ = some (.int .i64 r.to) ∧ w.cell? ⟨b, off + 2, none⟩ = some (.int .i64 r.proto) ∧ w.cell? ⟨b, off + 3, none⟩ = some (.int .u32 r.src) ∧ w.cell? ⟨b, off + 4, none⟩ = some (.int .u32 r.dst) ∧
    w.cell? ⟨b, off + 5, none⟩ = some (.int .i64 r.sb) ∧ w.cell? ⟨b, off + 6, none⟩ = some (.int .i64 r.db) ∧ w.cell? ⟨b, off + 7, none⟩ = some (.int .i64 r.lo) ∧ w.cell? ⟨b, off + 8, none⟩ = some (.int .i64 r.hi) ∧ w.cell? ⟨b, off + 9, none⟩ = some (.int .i64 r.act) :=
  ⟨H.2 0 _ rfl, H.2 1 _ rfl, H.2 2 _ rfl, H.2 3 _ rfl, H.2 4 _ rfl, H.2 5 _ rfl, H.2 6 _ rfl, H.2 7 _ rfl, H.2 8 _ rfl, H.2 9 _ rfl⟩
/-- the slice '.slice A n c' reads as the rules l -/
def RdRow (w : World) (A : Option Addr) (n : Nat) (l : List Rules.Rule) : Prop :=
  l.length = n ∧ n ≤ 9223372036854775807 ∧ ∀ j, j < n → ∃ b off, A = some ⟨b, off, none⟩ ∧ RCells10 w b (off + j * 10) (l[j]!)
theorem RdRow.below {w w' : World} {A : Option Addr} {n : Nat} {l : List Rules.Rule} (h : RdRow w A n l) (hb : Below w.heap.size w w') : RdRow w' A n l :=
  ⟨h.1, h.2.1, fun j hj => by
    obtain ⟨b, off, rfl, h1, h2⟩ := h.2.2 j hj
    exact ⟨b, off, rfl, Nat.lt_of_lt_of_le h1 hb.size, fun i v hi => (hb.cell (p := ⟨b, off + j * 10 + i, none⟩) h1).trans (h2 i v hi)⟩⟩
theorem RdRow.of_rd {w : World} {A : Option Addr} {n : Nat} {l : List Rules.Rule} (h : Rd w 10 A n (rcells l)) (hl : l.length = n) (hbig : n ≤ 9223372036854775807) : RdRow w A n l :=
  ⟨hl, hbig, fun j hj => by
    obtain ⟨b, off, e, hb, hc⟩ := h.2 (by omega)
    exact ⟨b, off, e, hb, fun i v hi => by
      have := hc (j * 10 + i) v (rcells_get l j i v (by omega) hi)
      rw [← Nat.add_assoc] at this
      exact this⟩⟩
theorem idx_any (p : Rules.Rule → Bool) : ∀ (l : List Rules.Rule), decide (0 ≤ idx p l) = l.any p := by
  intro l
  induction l with
  | nil => rfl
  | cons r t ih =>
    by_cases h : p r = true
    · have e1 : idx p (r :: t) = 0 := by simp [idx, h]
      rw [e1, List.any_cons, h]; rfl
    · have e1 : idx p (r :: t) = if idx p t < 0 then -1 else 1 + idx p t := by simp [idx, h]
      rw [e1, List.any_cons, Bool.eq_false_iff.2 h, Bool.false_or, ← ih, decide_eq_decide]
      split <;> omega
set_option maxHeartbeats 2000000 in
theorem indexFunc_spec (g : Nat) (lb : Array Value) (p : Rules.Rule → Bool) (ok : Rules.Rule → Prop) (A : Option Addr) (n c : Nat) (l : List Rules.Rule) (w : World)
    (eg : ∀ args w, (callFunc g args).run Try.prog w = .ok (.enter g args) w) (hp : PredR g lb p ok w) (hok : ∀ r ∈ l, ok r) (hrd : RdRow w A n l) :
    Calls Try.prog 28 #[.slice A n c, .func (.func g) #[] lb] w fun e w' => e = .returned (.int .i64 (idx p l)) ∧ Below w.heap.size w w' := by
  have hrow : ∀ (W : World), Below w.heap.size w W → ∀ j, j < n → ∃ b off, A = some ⟨b, off, none⟩ ∧ RCells10 W b (off + j * 10) (l[j]!) := fun W hW => (hrd.below hW).2.2
  have hl := hrd.1
  have hbig := hrd.2.1
  clear hrd
  go_enter Try.func28, Try.ntmps28
  go_wp2
  go_loopg [5, 8] n (fun gg _ s8 wr => ∃ kk : Nat, kk ≤ n ∧ n - kk ≤ gg ∧ s8 = .int .i64 kk ∧ Aside (Below w.heap.size w wr) ∧ Aside (∀ j, j < kk → p l[j]! = false))
  case atStart => exact ⟨0, Nat.zero_le _, by omega, rfl, Below.refl _ w, fun j hj => absurd hj (Nat.not_lt_zero _)⟩
  case round =>
    obtain ⟨kk, hkk, hg, rfl, BW, Aq⟩ := hrel
    by_cases hlt : kk < n
    · have hltz : (kk : Int) < (n : Int) := by omega
      obtain ⟨b, off, rfl, l2⟩ := hrow wr BW.out kk hlt
      have hcall := hp wr l[kk]! (hok _ (by rw [getElem!_pos l kk (by omega)]; exact List.getElem_mem _)) BW.out
      generalize hy : l[kk]! = r at l2 hcall
      have B : Aside (l[kk]! = r) := hy
      obtain ⟨e0, e1, e2, e3, e4, e5, e6, e7, e8, e9⟩ := l2.ten
      clear hy hrow hp l2
      cases hq : p r with
      | true =>
        rw [hq] at hcall
        go_wp2_with (go_at_fn g; refine hcall.mono ?_; rintro e w' ⟨rfl, hb'⟩)
        go_ret
        refine ⟨ret_int ?_, BW.out.trans (hb'.mono BW.out.size)⟩
        rw [idx_hit p l kk (by omega) (by rw [B.out]; exact hq) Aq.out]
      | false =>
        rw [hq] at hcall
        go_wp2_with (go_at_fn g; refine hcall.mono ?_; rintro e w' ⟨rfl, hb'⟩)
        go_roundg (n - (kk + 1))
        case measure => omega
        case rel =>
          refine ⟨kk + 1, by omega, by omega, by go_num, BW.out.trans (hb'.mono BW.out.size), (show Aside _ from fun j hj => ?_)⟩
          by_cases e : j = kk
          · subst e
            rw [B.out]; exact hq
          · exact Aq.out j (by omega)
    · have hltz : ¬ (kk : Int) < (n : Int) := by omega
      have : kk = n := by omega
      subst this
      go_wp2
      go_ret
      refine ⟨ret_int ?_, BW.out⟩
      rw [idx_miss p l (by rw [hl]; exact Aq.out)]
theorem containsFunc_spec (g : Nat) (lb : Array Value) (p : Rules.Rule → Bool) (ok : Rules.Rule → Prop) (A : Option Addr) (n c : Nat) (l : List Rules.Rule) (w : World)
    (eg : ∀ args w, (callFunc g args).run Try.prog w = .ok (.enter g args) w) (hp : PredR g lb p ok w) (hok : ∀ r ∈ l, ok r) (hrd : RdRow w A n l) :
    Calls Try.prog 30 #[.slice A n c, .func (.func g) #[] lb] w fun e w' => e = .returned (.bool (l.any p)) ∧ Below w.heap.size w w' := by
  rw [← idx_any]
  go_enter Try.func30, Try.ntmps30
  go_wp2_with (go_at_call 28; refine (indexFunc_spec g lb p ok A n c l _ eg hp hok hrd).mono ?_; rintro e w' ⟨rfl, hb'⟩)
  go_ret
  exact ⟨ret_bool (by simp), hb'⟩
theorem rulesRight_spec (A : Option Addr) (n c : Nat) (l : List Rules.Rule) (w : World) (hrd : RdRow w A n l) :
    Calls Try.prog 13 #[.slice A n c] w fun e w' => e = .returned (.bool (Rules.rightB l)) ∧ Below w.heap.size w w' := by
  have hl := hrd.1
  have hbig := hrd.2.1
  have eg : ∀ args w, (callFunc 31 args).run Try.prog w = .ok (.enter 31 args) w := enters_of Try.func31 (by kernel_rfl) rfl
  have hp : PredR 31 #[] (fun r => !Rules.mayB r) (fun _ => True) w := fun W r _ _ => rmayNot_spec r W
  have hall : l.all Rules.mayB = !(l.any fun r => !Rules.mayB r) := by rw [List.all_eq_not_any_not]
  unfold Rules.rightB
  rw [hall, hl]
  have hc := containsFunc_spec 31 #[] (fun r => !Rules.mayB r) (fun _ => True) A n c l w eg hp (fun _ _ => trivial) hrd
  generalize (l.any fun r => !Rules.mayB r) = q at hc ⊢
  clear hp eg hall hrd
  by_cases h64 : n ≤ 64
  · have h1 : (n : Int) ≤ 64 := by omega
    have h2 : decide (n ≤ 64) = true := by simp [h64]
    rw [h2]
    go_enter Try.func13, Try.ntmps13
    go_wp2_with (go_at_call 30; refine (hc).mono ?_; rintro e w' ⟨rfl, hb'⟩)
    go_ret
    exact ⟨ret_bool (by simp), hb'⟩
  · have h1 : ¬ (n : Int) ≤ 64 := by omega
    have h2 : decide (n ≤ 64) = false := by simp; omega
    rw [h2]
    go_enter Try.func13, Try.ntmps13
    go_wp2
    go_ret
    exact ⟨ret_bool (by simp), Below.refl _ _⟩
end Go.Proofs.Ytdocojhjknhjnaa
