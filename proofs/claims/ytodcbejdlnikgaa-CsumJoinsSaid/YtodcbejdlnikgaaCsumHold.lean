/- The walks of the laws over package csum, in the form that the last step takes. -/
import Derived.Test.YtodcbejdlnikgaaCsumLaws4
namespace Go.Proofs.Ytodcbejdlnikgaa
open Go.RowKit
set_option linter.unusedVariables false
theorem CsumMends_walk (A : Option Addr) (n c : Nat) (l : List Int) (a b : Int) (w : World) (hR : Rd w 1 A n (bs l)) (hB : isB l) (hn : n ≤ c) (hc : c ≤ 9223372036854775807)
    (wa : (Lit.int .i64 a).wf = true) (wb : (Lit.int .u16 b).wf = true) :
    Calls Try.prog 3 #[.slice A n c, .int .i64 a, .int .u16 b] w fun e w' => e = .returned (.bool true) ∧ Below w.heap.size w w' :=
  csum_mends A n c l a b w hR hB hn hc (bounds_i64 wa).1 (bounds_i64 wa).2 (bounds_u16 wb).1 (bounds_u16 wb).2
theorem CsumStands_walk (A : Option Addr) (n c : Nat) (l : List Int) (a b x : Int) (w : World) (hR : Rd w 1 A n (bs l)) (hB : isB l) (hn : n ≤ c) (hc : c ≤ 9223372036854775807)
    (wa : (Lit.int .i64 a).wf = true) (wb : (Lit.int .i64 b).wf = true) (wx : (Lit.int .u8 x).wf = true) :
    Calls Try.prog 4 #[.slice A n c, .int .i64 a, .int .i64 b, .int .u8 x] w fun e w' => e = .returned (.bool true) ∧ Below w.heap.size w w' :=
  csum_stands A n c l a b x w hR hB hn hc (bounds_i64 wa).1 (bounds_i64 wa).2 (bounds_i64 wb).1 (bounds_i64 wb).2 (bounds_u8 wx).1 (bounds_u8 wx).2
theorem CsumOrder_walk (A : Option Addr) (n c : Nat) (l : List Int) (A' : Option Addr) (n' c' : Nat) (l' : List Int) (w : World) (hR : Rd w 1 A n (bs l)) (hB : isB l) (hn : n ≤ c) (hc : c ≤ 9223372036854775807)
    (hR' : Rd w 1 A' n' (bs l')) (hB' : isB l') (hn' : n' ≤ c') (hc' : c' ≤ 9223372036854775807) :
    Calls Try.prog 5 #[.slice A n c, .slice A' n' c'] w fun e w' => e = .returned (.bool true) ∧ Below w.heap.size w w' :=
  csum_order A n c l A' n' c' l' w hR hB hn hc hR' hB' hn' hc'
theorem CsumJoins_walk (a b c o n : Int) (w : World) (wa : (Lit.int .u16 a).wf = true) (wb : (Lit.int .u16 b).wf = true) (wc : (Lit.int .u16 c).wf = true) (wo : (Lit.int .u16 o).wf = true) (wn : (Lit.int .u16 n).wf = true) :
    Calls Try.prog 6 #[.int .u16 a, .int .u16 b, .int .u16 c, .int .u16 o, .int .u16 n] w fun e w' => e = .returned (.bool true) ∧ Below w.heap.size w w' :=
  csum_joins a b c o n w (bounds_u16 wa).1 (bounds_u16 wa).2 (bounds_u16 wb).1 (bounds_u16 wb).2 (bounds_u16 wc).1 (bounds_u16 wc).2 (bounds_u16 wo).1 (bounds_u16 wo).2 (bounds_u16 wn).1 (bounds_u16 wn).2
theorem CsumRight_walk (A : Option Addr) (n c : Nat) (l : List Int) (x y z src dst proto size : Int) (w : World) (hR : Rd w 1 A n (bs l)) (hB : isB l) (hn : n ≤ c) (hc : c ≤ 9223372036854775807)
    (wx : (Lit.int .u16 x).wf = true) (wy : (Lit.int .u16 y).wf = true) (wz : (Lit.int .u16 z).wf = true) (ws : (Lit.int .u32 src).wf = true) (wd : (Lit.int .u32 dst).wf = true) (wp : (Lit.int .i64 proto).wf = true) (wi : (Lit.int .i64 size).wf = true) :
    Calls Try.prog 7 #[.slice A n c, .int .u16 x, .int .u16 y, .int .u16 z, .int .u32 src, .int .u32 dst, .int .i64 proto, .int .i64 size] w fun e w' => e = .returned (.bool true) ∧ Below w.heap.size w w' :=
  csum_right A n c l x y z src dst proto size w hR hB hn hc (bounds_u16 wx).1 (bounds_u16 wx).2 (bounds_u16 wy).1 (bounds_u16 wy).2 (bounds_u16 wz).1 (bounds_u16 wz).2 (bounds_u32 ws).1 (bounds_u32 ws).2 (bounds_u32 wd).1 (bounds_u32 wd).2
end Go.Proofs.Ytodcbejdlnikgaa
