/- UdpReads' walk in the form that the last step takes. -/
import Derived.Test.YtodcbejdlnikgaaUdpLaws
namespace Go.Proofs.Ytodcbejdlnikgaa
open Go.RowKit
set_option linter.unusedVariables false
theorem UdpReads_walk (s d : Int) (A : Option Addr) (n c : Nat) (l : List Int) (w : World) (ws : (Lit.int .u32 s).wf = true) (wd : (Lit.int .u32 d).wf = true) (hR : Rd w 1 A n (bs l)) (hB : isB l) (hn : n ≤ c) (hc : c ≤ 9223372036854775807) :
    Calls Try.prog 8 #[.int .u32 s, .int .u32 d, .slice A n c] w fun e w' => e = .returned (.bool true) ∧ Below w.heap.size w w' :=
  udp_reads A n c l s d w hR hB hn hc (bounds_u32 ws).1 (bounds_u32 ws).2 (bounds_u32 wd).1 (bounds_u32 wd).2
end Go.Proofs.Ytodcbejdlnikgaa
