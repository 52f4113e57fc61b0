/- The walks of the laws over package seq, in the form that the last step takes. -/
import Derived.Test.YthanglohehdjmaaSeqLaws
import Derived.Below
namespace Go.Proofs.Ythanglohehdjmaa
open Go.RowKit
set_option linter.unusedVariables false
theorem SeqBack_walk (a b n : Int) (w : World) (wa : (Lit.int .u32 a).wf = true) (wb : (Lit.int .u32 b).wf = true) (wn : (Lit.int .i64 n).wf = true) :
    Calls Try.prog 3 #[.int .u32 a, .int .u32 b, .int .i64 n] w fun e w' => e = .returned (.bool true) ∧ Below w.heap.size w w' :=
  (seq_back a b n (bounds_u32 wa) (bounds_u32 wb) w).mono fun _ _ ⟨h, h'⟩ => ⟨h, h' ▸ Below.refl _ _⟩
theorem SeqRight_walk (a b c n : Int) (w : World) (wa : (Lit.int .u32 a).wf = true) (wb : (Lit.int .u32 b).wf = true) (wc : (Lit.int .u32 c).wf = true) (wn : (Lit.int .i64 n).wf = true) :
    Calls Try.prog 4 #[.int .u32 a, .int .u32 b, .int .u32 c, .int .i64 n] w fun e w' => e = .returned (.bool true) ∧ Below w.heap.size w w' :=
  (seq_right a b c n (bounds_u32 wa) (bounds_u32 wb) (bounds_u32 wc) (bounds_i64 wn) w).mono fun _ _ ⟨h, h'⟩ => ⟨h, h' ▸ Below.refl _ _⟩
theorem SeqTurns_walk (a b c n : Int) (w : World) (wa : (Lit.int .u32 a).wf = true) (wb : (Lit.int .u32 b).wf = true) (wc : (Lit.int .u32 c).wf = true) (wn : (Lit.int .i64 n).wf = true) :
    Calls Try.prog 5 #[.int .u32 a, .int .u32 b, .int .u32 c, .int .i64 n] w fun e w' => e = .returned (.bool true) ∧ Below w.heap.size w w' :=
  (seq_turns a b c n (bounds_u32 wa) (bounds_u32 wb) w).mono fun _ _ ⟨h, h'⟩ => ⟨h, h' ▸ Below.refl _ _⟩
theorem SeqOrder_walk (a n m : Int) (w : World) (wa : (Lit.int .u32 a).wf = true) (wn : (Lit.int .u32 n).wf = true) (wm : (Lit.int .u32 m).wf = true) :
    Calls Try.prog 6 #[.int .u32 a, .int .u32 n, .int .u32 m] w fun e w' => e = .returned (.bool true) ∧ Below w.heap.size w w' :=
  (seq_order a n m (bounds_u32 wa) (bounds_u32 wn) (bounds_u32 wm) w).mono fun _ _ ⟨h, h'⟩ => ⟨h, h' ▸ Below.refl _ _⟩
theorem SeqSteps_walk (a b n m : Int) (w : World) (wa : (Lit.int .u32 a).wf = true) (wb : (Lit.int .u32 b).wf = true) (wn : (Lit.int .i32 n).wf = true) (wm : (Lit.int .i32 m).wf = true) :
    Calls Try.prog 7 #[.int .u32 a, .int .u32 b, .int .i32 n, .int .i32 m] w fun e w' => e = .returned (.bool true) ∧ Below w.heap.size w w' :=
  (seq_steps a b n m (bounds_u32 wa) (bounds_u32 wb) (bounds_i32 wn) (bounds_i32 wm) w).mono fun _ _ ⟨h, h'⟩ => ⟨h, h' ▸ Below.refl _ _⟩
end Go.Proofs.Ythanglohehdjmaa
