/- The walks of slices.IndexFunc and ContainsFunc at api.Route. -/
import Derived.Test.YtdocojhjknhjnaaRoutePlain
import Derived.Test.YtdocojhjknhjnaaRulesFits
import Derived.Deep.LoopGhost
import Derived.Shelf.Abstract
namespace Go.Proofs.Ytdocojhjknhjnaa
open Go.RowKit
set_option linter.unusedVariables false
/-- What is asked of a closure: from w on it says p, and makes memory of its own alone. -/
def PredT (g : Nat) (lb : Array Value) (p : Route.R → Bool) (ok : Route.R → Prop) (w : World) : Prop :=
  ∀ (W : World) (r : Route.R), ok r → Below w.heap.size w W → Calls Try.prog g (#[.agg #[.int .u32 r.net, .int .i64 r.bits, .int .i64 r.zone, .int .i64 r.mtu]] ++ lb) W fun e w' => e = .returned (.bool (p r)) ∧ Below W.heap.size W w'
def tcells (l : List Route.R) : List Value := l.flatMap Route.R.cells
/-- the first place where p holds, or -1 -/
def idt (p : Route.R → Bool) : List Route.R → Int
  | [] => -1
  | r :: t => if p r then 0 else if idt p t < 0 then -1 else 1 + idt p t
theorem tcells_get : ∀ (l : List Route.R) (k i : Nat) (v : Value), k < l.length → (l[k]!).cells[i]? = some v → (tcells l)[k * 4 + i]? = some v := by
  intro l
  induction l with
  | nil => intro k i v h; simp at h
  | cons r t ih =>
    intro k i v hk hv
    have hc : r.cells.length = 4 := rfl
    match k with
    | 0 =>
      have hi : i < 4 := by
        have := (List.getElem?_eq_some_iff.1 hv).1
        exact this
      simp only [tcells, List.flatMap_cons]
      rw [List.getElem?_append_left (by rw [hc]; omega)]
      simpa using hv
    | k + 1 =>
      simp only [tcells, List.flatMap_cons]
      rw [List.getElem?_append_right (by rw [hc]; omega), hc]
      have := ih k i v (by simpa using hk) (by simpa using hv)
      rw [show (k + 1) * 4 + i - 4 = k * 4 + i by omega]
      exact this
theorem idt_miss (p : Route.R → Bool) : ∀ (l : List Route.R), (∀ j, j < l.length → p l[j]! = false) → idt p l = -1 := by
  intro l
  induction l with
  | nil => intro _; rfl
  | cons r t ih =>
    intro h
    have h0 := h 0 (by simp)
    have h1 := ih (fun j hj => by have := h (j + 1) (by simp; omega); simpa using this)
    simp only [idt]
    simp at h0
    rw [h0, h1]; rfl
theorem idt_hit (p : Route.R → Bool) : ∀ (l : List Route.R) (k : Nat), k < l.length → p l[k]! = true → (∀ j, j < k → p l[j]! = false) → idt p l = k := by
  intro l
  induction l with
  | nil => intro k h; simp at h
  | cons r t ih =>
    intro k hk hp h
    match k with
    | 0 => simp at hp; simp [idt, hp]
    | k + 1 =>
      have h0 := h 0 (by omega)
      have h1 := ih k (by simpa using hk) (by simpa using hp) (fun j hj => by have := h (j + 1) (by omega); simpa using this)
      simp at h0
      simp only [idt]
      rw [h0, h1]
      simp only [Bool.false_eq_true, if_false]
      rw [if_neg (by omega)]
      omega
def RCells4 (W : World) (b off : Nat) (r : Route.R) : Prop := b < W.heap.size ∧ ∀ (i : Nat) (v : Value), r.cells[i]? = some v → W.cell? ⟨b, off + i, none⟩ = some v
theorem RCells4.four {w : World} {b off : Nat} {r : Route.R} (H : RCells4 w b off r) : w.cell? ⟨b, off, none⟩ = some (.int .u32 r.net) ∧ w.cell? ⟨b, off + 1, none⟩ = some (.int .i64 r.bits) ∧ w.cell? ⟨b, off + 2, none⟩ = some (.int .i64 r.zone) ∧ w.cell? ⟨b, off + 3, none⟩ = some (.int .i64 r.mtu) :=
  ⟨H.2 0 _ rfl, H.2 1 _ rfl, H.2 2 _ rfl, H.2 3 _ rfl⟩
/-- the slice '.slice A n c' reads as the routes l -/
def RdRoutes (w : World) (A : Option Addr) (n : Nat) (l : List Route.R) : Prop :=
  l.length = n ∧ n ≤ 9223372036854775807 ∧ ∀ j, j < n → ∃ b off, A = some ⟨b, off, none⟩ ∧ RCells4 w b (off + j * 4) (l[j]!)
theorem RdRoutes.below {w w' : World} {A : Option Addr} {n : Nat} {l : List Route.R} (h : RdRoutes w A n l) (hb : Below w.heap.size w w') : RdRoutes w' A n l :=
  ⟨h.1, h.2.1, fun j hj => by
    obtain ⟨b, off, rfl, h1, h2⟩ := h.2.2 j hj
    exact ⟨b, off, rfl, Nat.lt_of_lt_of_le h1 hb.size, fun i v hi => (hb.cell (p := ⟨b, off + j * 4 + i, none⟩) h1).trans (h2 i v hi)⟩⟩
theorem RdRoutes.of_rd {w : World} {A : Option Addr} {n : Nat} {l : List Route.R} (h : Rd w 4 A n (tcells l)) (hl : l.length = n) (hbig : n ≤ 9223372036854775807) : RdRoutes w A n l :=
  ⟨hl, hbig, fun j hj => by
    obtain ⟨b, off, e, hb, hc⟩ := h.2 (by omega)
    exact ⟨b, off, e, hb, fun i v hi => by
      have := hc (j * 4 + i) v (tcells_get l j i v (by omega) hi)
      rw [← Nat.add_assoc] at this
      exact this⟩⟩
theorem idt_any (p : Route.R → Bool) : ∀ (l : List Route.R), decide (0 ≤ idt p l) = l.any p := by
  intro l
  induction l with
  | nil => rfl
  | cons r t ih =>
    by_cases h : p r = true
    · have e1 : idt p (r :: t) = 0 := by simp [idt, h]
      rw [e1, List.any_cons, h]; rfl
    · have e1 : idt p (r :: t) = if idt p t < 0 then -1 else 1 + idt p t := by simp [idt, h]
      rw [e1, List.any_cons, Bool.eq_false_iff.2 h, Bool.false_or, ← ih, decide_eq_decide]
      split <;> omega
set_option maxHeartbeats 2000000 in
theorem indexFuncT_spec (g : Nat) (lb : Array Value) (p : Route.R → Bool) (ok : Route.R → Prop) (A : Option Addr) (n c : Nat) (l : List Route.R) (w : World)
    (eg : ∀ args w, (callFunc g args).run Try.prog w = .ok (.enter g args) w) (hp : PredT g lb p ok w) (hok : ∀ r ∈ l, ok r) (hrd : RdRoutes w A n l) :
    Calls Try.prog 42 #[.slice A n c, .func (.func g) #[] lb] w fun e w' => e = .returned (.int .i64 (idt p l)) ∧ Below w.heap.size w w' := by
  have hrow : ∀ (W : World), Below w.heap.size w W → ∀ j, j < n → ∃ b off, A = some ⟨b, off, none⟩ ∧ RCells4 W b (off + j * 4) (l[j]!) := fun W hW => (hrd.below hW).2.2
  have hl := hrd.1
  have hbig := hrd.2.1
  clear hrd
  go_enter Try.func42, Try.ntmps42
  go_wp2
  go_loopg [5, 8] n (fun gg _ s8 wr => ∃ kk : Nat, kk ≤ n ∧ n - kk ≤ gg ∧ s8 = .int .i64 kk ∧ Aside (Below w.heap.size w wr) ∧ Aside (∀ j, j < kk → p l[j]! = false))
  case atStart => exact ⟨0, Nat.zero_le _, by omega, rfl, Below.refl _ w, fun j hj => absurd hj (Nat.not_lt_zero _)⟩
  case round =>
    obtain ⟨kk, hkk, hg, rfl, BW, Aq⟩ := hrel
    by_cases hlt : kk < n
    · have hltz : (kk : Int) < (n : Int) := by omega
      obtain ⟨b, off, rfl, l2⟩ := hrow wr BW.out kk hlt
      have hcall := hp wr l[kk]! (hok _ (by rw [getElem!_pos l kk (by omega)]; exact List.getElem_mem _)) BW.out
      generalize hy : l[kk]! = r at l2 hcall
      have B : Aside (l[kk]! = r) := hy
      obtain ⟨e0, e1, e2, e3⟩ := l2.four
      clear hy hrow hp l2
      cases hq : p r with
      | true =>
        rw [hq] at hcall
        go_wp2_with (go_at_fn g; refine hcall.mono ?_; rintro e w' ⟨rfl, hb'⟩)
        go_ret
        refine ⟨ret_int ?_, BW.out.trans (hb'.mono BW.out.size)⟩
        rw [idt_hit p l kk (by omega) (by rw [B.out]; exact hq) Aq.out]
      | false =>
        rw [hq] at hcall
        go_wp2_with (go_at_fn g; refine hcall.mono ?_; rintro e w' ⟨rfl, hb'⟩)
        go_roundg (n - (kk + 1))
        case measure => omega
        case rel =>
          refine ⟨kk + 1, by omega, by omega, by go_num, BW.out.trans (hb'.mono BW.out.size), (show Aside _ from fun j hj => ?_)⟩
          by_cases e : j = kk
          · subst e
            rw [B.out]; exact hq
          · exact Aq.out j (by omega)
    · have hltz : ¬ (kk : Int) < (n : Int) := by omega
      have : kk = n := by omega
      subst this
      go_wp2
      go_ret
      refine ⟨ret_int ?_, BW.out⟩
      rw [idt_miss p l (by rw [hl]; exact Aq.out)]
theorem containsFuncT_spec (g : Nat) (lb : Array Value) (p : Route.R → Bool) (ok : Route.R → Prop) (A : Option Addr) (n c : Nat) (l : List Route.R) (w : World)
    (eg : ∀ args w, (callFunc g args).run Try.prog w = .ok (.enter g args) w) (hp : PredT g lb p ok w) (hok : ∀ r ∈ l, ok r) (hrd : RdRoutes w A n l) :
    Calls Try.prog 38 #[.slice A n c, .func (.func g) #[] lb] w fun e w' => e = .returned (.bool (l.any p)) ∧ Below w.heap.size w w' := by
  rw [← idt_any]
  go_enter Try.func38, Try.ntmps38
  go_wp2_with (go_at_call 42; refine (indexFuncT_spec g lb p ok A n c l _ eg hp hok hrd).mono ?_; rintro e w' ⟨rfl, hb'⟩)
  go_ret
  exact ⟨ret_bool (by simp), hb'⟩
end Go.Proofs.Ytdocojhjknhjnaa
