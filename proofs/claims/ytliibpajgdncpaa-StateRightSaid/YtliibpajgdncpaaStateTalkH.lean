/- Words for the walk of state.talk. -/
import Derived.Test.YtliibpajgdncpaaStateSaid
import Derived.Test.YtliibpajgdncpaaStateSeq
import Derived.Test.YtliibpajgdncpaaStateRightP
import Derived.Test.YtliibpajgdncpaaBlk
import Derived.Deep.RegionHeld3
import Derived.Deep.DeepCutAuto
import Derived.Deep.QuietTactic
import Derived.BigQuiet
namespace Go.Proofs.Ytliibpajgdncpaa
open Go.RowKit
set_option linter.unusedVariables false
theorem cells7 {w : World} {g : Nat} {T : TypeId} {x0 x1 x2 x3 x4 x5 x6 : Value} (h : Blk w g T [x0, x1, x2, x3, x4, x5, x6]) :
    w.cell? ⟨g, 0, none⟩ = some x0 ∧ w.cell? ⟨g, 1, none⟩ = some x1 ∧ w.cell? ⟨g, 2, none⟩ = some x2 ∧ w.cell? ⟨g, 3, none⟩ = some x3 ∧ w.cell? ⟨g, 4, none⟩ = some x4 ∧ w.cell? ⟨g, 5, none⟩ = some x5 ∧ w.cell? ⟨g, 6, none⟩ = some x6 :=
  ⟨h.cell rfl, h.cell rfl, h.cell rfl, h.cell rfl, h.cell rfl, h.cell rfl, h.cell rfl⟩
theorem frozen7 {w : World} {g : Nat} {T : TypeId} {xs : List Value} (h : Blk w g T xs) :
    w.frozen? ⟨g, 0, none⟩ = false ∧ w.frozen? ⟨g, 1, none⟩ = false ∧ w.frozen? ⟨g, 2, none⟩ = false ∧ w.frozen? ⟨g, 3, none⟩ = false ∧ w.frozen? ⟨g, 4, none⟩ = false ∧ w.frozen? ⟨g, 5, none⟩ = false ∧ w.frozen? ⟨g, 6, none⟩ = false :=
  ⟨h.unfrozen 0, h.unfrozen 1, h.unfrozen 2, h.unfrozen 3, h.unfrozen 4, h.unfrozen 5, h.unfrozen 6⟩
theorem cells10 {w : World} {g : Nat} {T : TypeId} {x0 x1 x2 x3 x4 x5 x6 x7 x8 x9 : Value} {xs : List Value} (h : Blk w g T (x0 :: x1 :: x2 :: x3 :: x4 :: x5 :: x6 :: x7 :: x8 :: x9 :: xs)) :
    w.cell? ⟨g, 0, none⟩ = some x0 ∧ w.cell? ⟨g, 1, none⟩ = some x1 ∧ w.cell? ⟨g, 2, none⟩ = some x2 ∧ w.cell? ⟨g, 3, none⟩ = some x3 ∧ w.cell? ⟨g, 4, none⟩ = some x4 ∧ w.cell? ⟨g, 5, none⟩ = some x5 ∧ w.cell? ⟨g, 6, none⟩ = some x6 ∧ w.cell? ⟨g, 7, none⟩ = some x7 ∧ w.cell? ⟨g, 8, none⟩ = some x8 ∧ w.cell? ⟨g, 9, none⟩ = some x9 :=
  ⟨h.cell rfl, h.cell rfl, h.cell rfl, h.cell rfl, h.cell rfl, h.cell rfl, h.cell rfl, h.cell rfl, h.cell rfl, h.cell rfl⟩
def TalkR (d : State.C) (ok : Bool) (w : World) (e : Ending) (w' : World) : Prop := e = .returned (.tuple #[.agg d.cells.toArray, .bool ok]) ∧ Below w.heap.size w w'
theorem fins_bd (c : State.C) : 0 ≤ State.fins c ∧ State.fins c ≤ 2 := by unfold State.fins State.bi; constructor <;> (repeat' split) <;> omega
theorem dist_q (a b : Int) (w : World) (n : Nat) : Calls Try.prog 21 #[.int .u32 a, .int .u32 b] (w.drewN n) fun e w' => e = .returned (.int .i64 (Seq.dist a b)) ∧ ∃ m, w' = w.drewN m :=
  (seq_dist a b _).mono fun _ _ ⟨h, h'⟩ => ⟨h, n, h'.symm⟩
theorem talkR_mk {d d' : State.C} {w w' : World} (h : d = d') (hb : Below w.heap.size w w') : TalkR d true w (.returned (.tuple #[.agg #[.int .i64 d'.st, .bool d'.f0, .bool d'.f1, .int .u32 d'.a0, .int .u32 d'.a1, .bool d'.k0, .bool d'.k1], .bool true])) w' := ⟨by rw [h]; rfl, hb⟩
theorem eq_of_beq' {a b : Int} (h : (a == b) = true) : a = b := by simpa using h
theorem ne_of_beq {a b : Int} (h : (a == b) = false) : ¬ a = b := by simpa using h
end Go.Proofs.Ytliibpajgdncpaa
