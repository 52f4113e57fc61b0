/- A region that draws its order, whose operations only read and whose callees may lay blocks of their own: walked once (the library's 'wp_region_quiet' at the class 'below'). No program in sight. -/
import Derived.Test.YtihhcalgjkkalaaOwn
import Derived.BigQuiet
namespace Go.Proofs.Ytihhcalgjkkalaa
open Go.RowKit
set_option linter.unusedVariables false
structure BelBy (w : World) where
  v : World
  h : Below w.heap.size w v
instance (w : World) : Inhabited (BelBy w) := ⟨⟨w, Below.refl _ _⟩⟩
theorem wp_region_quiet_bel {P : Program} {id : Nat} {Q : Exit → Act → World → Prop} {a : Act} {w : World} {l : List Oper} (hm : P.follows .mixedOrders = true) (hB : Region.lexB .any l.toArray = true)
    (h : wpQuiet P l.toArray (fun w' => ∃ p : BelBy w, w' = p.v) (fun a' => ∀ w', (∃ p : BelBy w, w' = p.v) → Q .normal a' w') l a) : (Code.region id l.toArray true).wp P Q a w :=
  wp_region_quiet (C := fun w' => ∃ p : BelBy w, w' = p.v) hm hB ⟨⟨w.drew, ⟨rfl, rfl, rfl, Nat.le_refl _, fun _ _ => rfl⟩⟩, rfl⟩ (by simpa using h)
theorem cell_bel {w : World} {a : Addr} {v : Value} (hb : a.block < w.heap.size) (h : w.cell? a = some v) (p : BelBy w) : p.v.cell? a = some v := (p.h.cell hb).trans h
theorem calls_bel {P : Program} {f : FuncId} {args : Array Value} {w : World} {p : BelBy w} {v : Value}
    (h : Calls P f args p.v fun e w' => e = .returned v ∧ Below p.v.heap.size p.v w') : Calls P f args p.v fun e w'' => e = .returned v ∧ ∃ q : BelBy w, w'' = q.v :=
  h.mono fun _ w' ⟨he, hb⟩ => ⟨he, ⟨w', bel_then p.h hb⟩, rfl⟩
end Go.Proofs.Ytihhcalgjkkalaa
