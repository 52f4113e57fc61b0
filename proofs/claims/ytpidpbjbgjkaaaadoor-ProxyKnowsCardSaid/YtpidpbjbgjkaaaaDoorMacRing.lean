/- Rings of keys in memory; the walks of slices.IndexFunc, ContainsFunc over them, of mac.right, mac.Check. -/
import Derived.Test.YtpidpbjbgjkaaaaDoorMacSum
import Derived.Shelf.Abstract
namespace Go.Proofs.YtpidpbjbgjkaaaaDoor
open Go.RowKit
set_option linter.unusedVariables false
namespace Mac
/-- a key in memory -/
structure Key where
  A : Option Addr
  n : Nat
  c : Nat
  l : List Int
def Key.val (k : Key) : Value := .slice k.A k.n k.c
structure Key.ok (k : Key) (w : World) : Prop where
  rd : Rd w 1 k.A k.n (bs k.l)
  by8 : isB k.l
  small : k.n ≤ 4294960000
theorem Key.ok.below {k : Key} {w w' : World} (h : k.ok w) (hb : Below w.heap.size w w') : k.ok w' := ⟨h.rd.below hb, h.by8, h.small⟩
/-- a ring in memory -/
structure Ring (w : World) (A : Option Addr) (n : Nat) (rs : List Key) : Prop where
  len : rs.length = n
  rd : Rd w 1 A n (rs.map Key.val)
  keys : ∀ k ∈ rs, k.ok w
theorem Ring.below {w w' : World} {A : Option Addr} {n : Nat} {rs : List Key} (h : Ring w A n rs) (hb : Below w.heap.size w w') : Ring w' A n rs := ⟨h.len, h.rd.below hb, fun k hk => (h.keys k hk).below hb⟩
theorem Ring.cell {w : World} {A : Option Addr} {n : Nat} {rs : List Key} (h : Ring w A n rs) {j : Nat} (hj : j < n) : ∃ b off, ∃ k : Key, A = some ⟨b, off, Option.none⟩ ∧ b < w.heap.size ∧ w.cell? ⟨b, off + j, Option.none⟩ = some (.slice k.A k.n k.c) ∧ k ∈ rs ∧ Hid (rs[j]? = some k) := by
  have hl := h.len
  obtain ⟨b, off, e, hb, hc⟩ := h.rd.2 (by omega)
  refine ⟨b, off, rs[j], e, hb, hc j _ ?_, List.getElem_mem (by omega), Lib.hid (List.getElem?_eq_getElem (by omega))⟩
  rw [List.getElem?_map, List.getElem?_eq_getElem (by omega)]
  rfl
theorem Ring.nil (w : World) (A : Option Addr) : Ring w A 0 [] := ⟨rfl, Rd.nil_ A, fun k hk => by cases hk⟩
theorem Ring.take {w : World} {A : Option Addr} {n : Nat} {rs : List Key} (h : Ring w A n rs) {m : Nat} (hm : m ≤ n) : Ring w A m (rs.take m) :=
  ⟨by rw [List.length_take, h.len]; omega, by rw [List.map_take]; exact h.rd.take hm, fun k hk => h.keys k (List.mem_of_mem_take hk)⟩
/-- the first place where p holds, or -1 -/
def idx {α : Type} (p : α → Bool) : List α → Int
  | [] => -1
  | r :: t => if p r then 0 else if idx p t < 0 then -1 else 1 + idx p t
theorem idx_miss {α : Type} (p : α → Bool) : ∀ (l : List α), (∀ (j : Nat) (x : α), l[j]? = some x → p x = false) → idx p l = -1 := by
  intro l
  induction l with
  | nil => intro _; rfl
  | cons r t ih =>
    intro h
    have h0 := h 0 r rfl
    have h1 := ih (fun j x hx => h (j + 1) x hx)
    simp only [idx, h0, h1]
    rfl
theorem idx_hit {α : Type} (p : α → Bool) : ∀ (l : List α) (k : Nat) (x : α), l[k]? = some x → p x = true → (∀ j y, j < k → l[j]? = some y → p y = false) → idx p l = k := by
  intro l
  induction l with
  | nil => intro k x h; simp at h
  | cons r t ih =>
    intro k x hk hp h
    match k with
    | 0 =>
      simp at hk
      subst hk
      simp [idx, hp]
    | k + 1 =>
      have h0 := h 0 r (by omega) rfl
      have h1 := ih k x (by simpa using hk) hp (fun j y hj hy => h (j + 1) y (by omega) hy)
      simp only [idx, h0, h1, Bool.false_eq_true, if_false]
      rw [if_neg (by omega)]
      omega
theorem idx_any {α : Type} (p : α → Bool) : ∀ (l : List α), decide (0 ≤ idx p l) = l.any p := by
  intro l
  induction l with
  | nil => rfl
  | cons r t ih =>
    by_cases h : p r = true
    · have e1 : idx p (r :: t) = 0 := by simp [idx, h]
      rw [e1, List.any_cons, h]; rfl
    · have e1 : idx p (r :: t) = if idx p t < 0 then -1 else 1 + idx p t := by simp [idx, h]
      rw [e1, List.any_cons, Bool.eq_false_iff.2 h, Bool.false_or, ← ih, decide_eq_decide]
      split <;> omega
theorem idx_ge {α : Type} (p : α → Bool) : ∀ (l : List α), -1 ≤ idx p l ∧ idx p l < l.length := by
  intro l
  induction l with
  | nil => exact ⟨by simp [idx], by simp [idx]⟩
  | cons r t ih =>
    simp only [idx]
    split
    · exact ⟨by omega, by simp⟩
    · split
      · exact ⟨by omega, by simp; omega⟩
      · exact ⟨by omega, by simp; omega⟩
theorem idx_map {α β : Type} (f : α → β) (p : β → Bool) (l : List α) : idx (fun x => p (f x)) l = idx p (l.map f) := by
  induction l with
  | nil => rfl
  | cons r t ih => simp only [idx, List.map_cons, ih]
end Mac
/-- What is asked of a closure: from w on it says p, and makes memory of its own alone. -/
def PredK (g : Nat) (lb : Array Value) (p : Mac.Key → Bool) (w : World) : Prop :=
  ∀ (W : World) (k : Mac.Key), k.ok W → Below w.heap.size w W → Calls Tryd.prog g (#[.slice k.A k.n k.c] ++ lb) W fun e w' => e = .returned (.bool (p k)) ∧ Below W.heap.size W w'
set_option maxHeartbeats 2000000 in
theorem indexK_spec (g : Nat) (lb : Array Value) (p : Mac.Key → Bool) (A : Option Addr) (n c : Nat) (rs : List Mac.Key) (w : World)
    (eg : ∀ args w, (callFunc g args).run Tryd.prog w = .ok (.enter g args) w) (hp : PredK g lb p w) (hr : Mac.Ring w A n rs) (hbig : n ≤ 9223372036854775807) :
    Calls Tryd.prog 58 #[.slice A n c, .func (.func g) #[] lb] w fun e w' => e = .returned (.int .i64 (Mac.idx p rs)) ∧ Below w.heap.size w w' := by
  have HR := Lib.hid hr
  have HP := Lib.hid hp
  have HL := Lib.hid hr.len
  clear hr hp
  go_enter Tryd.func58, Tryd.ntmps58
  go_wp2_with fail
  go_loopg [5, 8] n (fun gg _ s8 wx => ∃ kk : Nat, kk + gg = n ∧ s8 = .int .i64 kk ∧ Below w.heap.size w wx ∧ Hid (∀ j y, j < kk → rs[j]? = some y → p y = false))
  case atStart => exact ⟨0, by omega, rfl, Below.refl _ w, Lib.hid fun j y hj => absurd hj (Nat.not_lt_zero _)⟩
  case round =>
    obtain ⟨kk, hkg, rfl, BW, Aq⟩ := hrel
    cases gk with
    | zero =>
      obtain rfl : kk = n := by omega
      have hv : Hid (Mac.idx p rs = -1) := Lib.hid (Mac.idx_miss p rs fun j x hx => Aq.out j x (by have := (List.getElem?_eq_some_iff.1 hx).1; have := HL.out; omega) hx)
      go_wp2_with fail
      go_ret
      exact ⟨ret_int (by rw [hv.out]), BW⟩
    | succ g' =>
      have hlt : kk < n := by omega
      have hltz : (kk : Int) < (n : Int) := by omega
      obtain ⟨b, off, k, rfl, hbs, hc, hmem, hk⟩ := (HR.out.below BW).cell hlt
      have hcall := HP.out wr k (((HR.out.below BW).keys k hmem)) BW
      obtain ⟨q, hq⟩ : ∃ q, p k = q := ⟨_, rfl⟩
      rw [hq] at hcall
      have HQ := Lib.hid hq
      clear hq hmem
      cases q with
      | true =>
        go_wp2_with (go_at_fn g; refine hcall.mono ?_; rintro e w' ⟨rfl, hb'⟩)
        go_ret
        refine ⟨ret_int ?_, BW.trans (hb'.mono BW.size)⟩
        rw [Mac.idx_hit p rs kk k hk.out HQ.out Aq.out]
      | false =>
        go_wp2_with (go_at_fn g; refine hcall.mono ?_; rintro e w' ⟨rfl, hb'⟩)
        go_roundg g'
        case measure => omega
        case rel =>
          refine ⟨kk + 1, by omega, by go_num, BW.trans (hb'.mono BW.size), Lib.hid fun j y hj hy => ?_⟩
          by_cases e : j = kk
          · subst e
            rw [hk.out] at hy
            injection hy with hy
            subst hy
            exact HQ.out
          · exact Aq.out j y (by omega) hy
theorem containsK_spec (g : Nat) (lb : Array Value) (p : Mac.Key → Bool) (A : Option Addr) (n c : Nat) (rs : List Mac.Key) (w : World)
    (eg : ∀ args w, (callFunc g args).run Tryd.prog w = .ok (.enter g args) w) (hp : PredK g lb p w) (hr : Mac.Ring w A n rs) (hbig : n ≤ 9223372036854775807) :
    Calls Tryd.prog 45 #[.slice A n c, .func (.func g) #[] lb] w fun e w' => e = .returned (.bool (rs.any p)) ∧ Below w.heap.size w w' := by
  rw [← Mac.idx_any]
  go_enter Tryd.func45, Tryd.ntmps45
  go_wp2_with (go_at_call 58; refine (indexK_spec g lb p A n c rs _ eg hp hr hbig).mono ?_; rintro e w' ⟨rfl, hb'⟩)
  go_ret
  exact ⟨ret_bool (by simp), hb'⟩
end Go.Proofs.YtpidpbjbgjkaaaaDoor
