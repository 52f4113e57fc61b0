/- The fixed answers of rules. -/
import Derived.Test.YtdocojhjknhjnaaRulesPairs
import Derived.Deep.RegionHeld3
namespace Go.Proofs.Ytdocojhjknhjnaa
open Go.RowKit
set_option linter.unusedVariables false
theorem rcells_len : ∀ (l : List Rules.Rule), (rcells l).length = l.length * 10
  | [] => rfl
  | r :: t => by
    have := rcells_len t
    simp only [rcells, List.flatMap_cons, List.length_append, List.length_cons] at this ⊢
    rw [this]
    have hc : r.cells.length = 10 := rfl
    omega
theorem RdRow.lit (w : World) (e : TypeId) (l : List Rules.Rule) (h : l.length ≤ 9223372036854775807) : RdRow (w.alloc (.cells (rcells l).toArray e)) (some ⟨w.heap.size, 0, none⟩) l.length l :=
  .of_rd ⟨rcells_len l, fun _ => ⟨_, _, rfl, by simp, fun j u hu => by rw [box_cell]; simpa using hu⟩⟩ rfl h
theorem RdRow.take {w : World} {A : Option Addr} {n : Nat} {l : List Rules.Rule} (h : RdRow w A n l) {m : Nat} (hm : m ≤ n) : RdRow w A m (l.take m) :=
  ⟨by have := h.1; simp; omega, by have := h.2.1; omega, fun j hj => by
    obtain ⟨b, off, e, h1⟩ := h.2.2 j (by omega)
    have : (l.take m)[j]! = l[j]! := by
      rw [getElem!_pos _ j (by have := h.1; simp; omega), getElem!_pos l j (by have := h.1; omega)]; simp
    exact ⟨b, off, e, by rw [this]; exact h1⟩⟩
def Rules.a1 : Rules.Rule := ⟨1, -1, 0, 0, 0, 0, 0, 0, 65535, 1⟩
def Rules.a2 : Rules.Rule := ⟨-1, -1, 0, 0, 0, 0, 0, 0, 65535, 2⟩
theorem rules_awake (w : World) : Calls Try.prog 11 #[] w fun e w' => e = .returned (.bool true) ∧ Below w.heap.size w w' := by
  obtain ⟨W, hW⟩ : ∃ W, W = w.alloc (.cells #[.int .i64 1, .int .i64 (-1), .int .i64 0, .int .u32 0, .int .u32 0, .int .i64 0, .int .i64 0, .int .i64 0, .int .i64 65535, .int .i64 1, .int .i64 (-1), .int .i64 (-1), .int .i64 0, .int .u32 0, .int .u32 0, .int .i64 0, .int .i64 0, .int .i64 0, .int .i64 65535, .int .i64 2] 32) := ⟨_, rfl⟩
  have hb : Below w.heap.size w W := by rw [hW]; exact (Below.refl _ _).alloc (Nat.le_refl _) _
  have hr : RdRow W (some ⟨w.heap.size, 0, none⟩) 2 [Rules.a1, Rules.a2] := by rw [hW]; exact RdRow.lit w 32 [Rules.a1, Rules.a2] (by decide)
  have hwf : ∀ r ∈ [Rules.a1, Rules.a2], r.wf := by
    intro r hr
    simp only [List.mem_cons, List.not_mem_nil, or_false] at hr
    rcases hr with rfl | rfl <;> (unfold Rules.Rule.wf; decide)
  have htw : (Rules.Tup.mk 6 0 0 0 0).wf := by unfold Rules.Tup.wf; decide
  have q1 : Rules.askAct [Rules.a1, Rules.a2] 0 3 ⟨6, 0, 0, 0, 0⟩ = 2 := by decide
  have q2 : Rules.askAt [Rules.a1, Rules.a2] 0 3 ⟨6, 0, 0, 0, 0⟩ = 1 := by decide
  have q3 : Rules.askAct [Rules.a1, Rules.a2] 1 3 ⟨6, 0, 0, 0, 0⟩ = 1 := by decide
  have q4 : Rules.askAt [Rules.a1, Rules.a2] 1 3 ⟨6, 0, 0, 0, 0⟩ = 0 := by decide
  have q5 : Rules.rightB [Rules.a1, Rules.a2] = true := by decide
  go_enter Try.func11, Try.ntmps11
  go_wp2_with fail
  rw [← hW]
  refine (ask_spec _ 2 2 _ 0 3 ⟨6, 0, 0, 0, 0⟩ _ hr hwf htw).mono ?_
  rw [q1, q2]
  rintro e w1 ⟨rfl, hb1⟩
  go_wp2_with fail
  refine (ask_spec _ 2 2 _ 1 3 ⟨6, 0, 0, 0, 0⟩ _ (hr.below hb1) hwf htw).mono ?_
  rw [q3, q4]
  rintro e w2 ⟨rfl, hb2⟩
  go_wp2_with fail
  refine (rulesRight_spec _ 2 2 _ _ ((hr.below hb1).below hb2)).mono ?_
  rw [q5]
  rintro e w3 ⟨rfl, hb3⟩
  go_wp2
  go_ret
  exact ⟨rfl, bel_then (bel_then (bel_then hb hb1) hb2) hb3⟩
end Go.Proofs.Ytdocojhjknhjnaa
