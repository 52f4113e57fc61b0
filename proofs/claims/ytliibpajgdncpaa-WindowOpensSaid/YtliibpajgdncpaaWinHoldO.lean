/- The walk of WindowOpens in the form that the last step takes. -/
import Derived.Test.YtliibpajgdncpaaWinOpens
namespace Go.Proofs.Ytliibpajgdncpaa
open Go.RowKit
theorem WindowOpens_walk (a b x y s z : Int) (has is : Bool) (w : World) (wa : (Lit.int .u32 a).wf = true) (wb : (Lit.int .u32 b).wf = true) (wx : (Lit.int .u16 x).wf = true) (wy : (Lit.int .u16 y).wf = true) (ws : (Lit.int .u8 s).wf = true) (wz : (Lit.int .u8 z).wf = true) :
    Calls Try.prog 8 #[.int .u32 a, .int .u32 b, .int .u16 x, .int .u16 y, .int .u8 s, .int .u8 z, .bool has, .bool is] w fun e w' => e = .returned (.bool true) ∧ Below w.heap.size w w' := by
  obtain ⟨a0, a1⟩ := bounds_u32 wa
  obtain ⟨b0, b1⟩ := bounds_u32 wb
  obtain ⟨x0, x1⟩ := bounds_u16 wx
  obtain ⟨y0, y1⟩ := bounds_u16 wy
  obtain ⟨s0, s1⟩ := bounds_u8 ws
  obtain ⟨z0, z1⟩ := bounds_u8 wz
  exact win_opens a b x y s z has is w a0 a1 b0 b1 x0 x1 y0 y1 s0 s1 z0 z1
end Go.Proofs.Ytliibpajgdncpaa
