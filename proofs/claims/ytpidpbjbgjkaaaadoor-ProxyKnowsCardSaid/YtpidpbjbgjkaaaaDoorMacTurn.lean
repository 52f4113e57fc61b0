/- The walk of mac.Turn. -/
import Derived.Test.YtpidpbjbgjkaaaaDoorMacRg
import Derived.Deep.DeepCutAuto
namespace Go.Proofs.YtpidpbjbgjkaaaaDoor
open Go.RowKit
set_option linter.unusedVariables false
theorem own_apart {w : World} {b1 b2 : Nat} {e1 e2 : TypeId} {s1 s2 : Nat} {v1 v2 : Value} {n1 n2 : Nat} {xs ys : List Value} (h1 : w.ownsRow b1 e1 s1 v1 n1 xs) (h2 : w.ownsRow b2 e2 s2 v2 n2 ys) (hne : e1 ≠ e2) : v1.ownBlock = none ∨ v1.ownBlock ≠ v2.ownBlock := by
  rcases h1.2 with ⟨rfl, _⟩ | ⟨g, cap, cur, rfl, _, hg, _⟩
  · exact Or.inl rfl
  · refine Or.inr fun he => ?_
    rcases h2.2 with ⟨rfl, _⟩ | ⟨g', cap', cur', rfl, _, hg', _⟩
    · cases he
    · simp only [Value.ownBlock, Option.some.injEq] at he
      subst he
      rw [hg] at hg'
      injection hg' with hg'
      injection hg' with _ h3
      exact hne h3
namespace Mac
/-- a key in memory of the call's own -/
structure Key.own (k : Key) (w : World) (base : Nat) : Prop where
  row : w.ownsRow base 5 1 (.slice k.A k.n k.c) k.n (bs k.l)
  by8 : isB k.l
  small : k.n ≤ 4294960000
theorem Key.own.ok {k : Key} {w : World} {base : Nat} (h : k.own w base) : k.ok w := ⟨Rd.of_own h.row, h.by8, h.small⟩
theorem Key.own.below {k : Key} {w w' : World} {base : Nat} (h : k.own w base) (hb : Below w.heap.size w w') : k.own w' base := ⟨own_below h.row hb, h.by8, h.small⟩
theorem Key.own.app {k : Key} {w w' : World} {base b2 : Nat} (h : k.own w base) {v : Value} {n : Nat} {xs : List Value} (ho : w.ownsRow b2 27 1 v n xs) (hg : w.grownBy w' v.ownBlock) : k.own w' base :=
  ⟨h.row.kept hg (own_apart h.row ho (by decide)), h.by8, h.small⟩
def turn (ls : List (List Int)) (key : List Int) : List (List Int) := if right ls = true ∧ key.length ≤ 128 then key :: ls.take 1 else ls
def turnE (ls : List (List Int)) (key : List Int) : Int := if right ls = true ∧ key.length ≤ 128 then 0 else 12
end Mac
theorem ring_info : (Tryd.prog.info? 27).map (fun i => (i.zero, i.size, i.bytes)) = some (some (.slice none 0 0), 1, 24) := by kernel_rfl
theorem one_sl (A : Option Addr) (n c : Nat) : ∀ u ∈ [Value.slice A n c], u.oneCell' = true := by
  intro u hu
  rw [List.mem_singleton] at hu
  subst hu
  rfl
end Go.Proofs.YtpidpbjbgjkaaaaDoor
