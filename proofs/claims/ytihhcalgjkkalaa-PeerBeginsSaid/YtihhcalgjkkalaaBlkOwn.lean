/- A row of the call's own beside a store into a block of another type. No program in sight. -/
import Derived.Test.YtihhcalgjkkalaaBlkOps
namespace Go.Proofs.Ytihhcalgjkkalaa
open Go.RowKit
set_option linter.unusedVariables false
theorem own_st {w w' : World} {base g : Nat} {e T : TypeId} {s n : Nat} {v : Value} {xs l : List Value} (h : w.ownsRow base e s v n xs) (hB : BlkV w g T l) (ho : OnlyB g w w') (hne : e ≠ T) : w'.ownsRow base e s v n xs :=
  h.kept ho.grown (by
    rcases h.2 with ⟨rfl, _⟩ | ⟨g', cap, cur, rfl, _, hg, _⟩
    · exact .inl rfl
    · refine .inr fun he => ?_
      simp only [Value.ownBlock, Option.some.injEq] at he
      subst he
      unfold BlkV at hB
      rw [hg] at hB
      injection hB with hB
      injection hB with _ h3
      exact hne h3)
end Go.Proofs.Ytihhcalgjkkalaa
