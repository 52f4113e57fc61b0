/- UdpBack's walk in the form that the last step takes. -/
import Derived.Test.YtodcbejdlnikgaaUdpLaws5
namespace Go.Proofs.Ytodcbejdlnikgaa
open Go.RowKit
set_option linter.unusedVariables false
theorem UdpBack_walk (s d : Int) (sp dp : Int) (ns : Bool) (A : Option Addr) (n c : Nat) (l : List Int) (A' : Option Addr) (n' c' : Nat) (l' : List Int) (w : World) (ws : (Lit.int .u32 s).wf = true) (wd : (Lit.int .u32 d).wf = true)
    (wsp : (Lit.int .i64 sp).wf = true) (wdp : (Lit.int .i64 dp).wf = true) (hR : Rd w 1 A n (bs l)) (hB : isB l) (hn : n ≤ c) (hc : c ≤ 9223372036854775807) (hR' : Rd w 1 A' n' (bs l')) (hB' : isB l') (hn' : n' ≤ c') (hc' : c' ≤ 9223372036854775807) :
    Calls Try.prog 12 #[.int .u32 s, .int .u32 d, .agg #[.int .i64 sp, .int .i64 dp, .bool ns, .slice A n c], .slice A' n' c'] w fun e w' => e = .returned (.bool true) ∧ Below w.heap.size w w' :=
  udp_back s d sp dp ns A n c l A' n' c' l' w (bounds_u32 ws).1 (bounds_u32 ws).2 (bounds_u32 wd).1 (bounds_u32 wd).2 hR hB hn hc hR' hB' hn' hc'
end Go.Proofs.Ytodcbejdlnikgaa
