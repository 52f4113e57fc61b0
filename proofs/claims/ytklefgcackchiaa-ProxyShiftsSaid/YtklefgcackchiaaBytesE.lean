/- The walk of bytes.Equal. -/
import Derived.Test.YtklefgcackchiaaBytesS
namespace Go.Proofs.Ytklefgcackchiaa
open Go.RowKit
set_option linter.unusedVariables false
set_option maxHeartbeats 400000 in
theorem bytes_equal (A B : Option Addr) (n c m d : Nat) (a b : List Int) (w : World) (ha : Rd w 1 A n (bs a)) (hb : Rd w 1 B m (bs b)) (hBa : isB a) (hBb : isB b) :
    Calls Try.prog 13 #[.slice A n c, .slice B m d] w fun e w' => e = .returned (.bool (a == b)) ∧ w = w' := by
  have h1 := run_str_of_bytes (P := Try.prog) w 24 9 5 Try.underlying24 Try.underlying5 Try.underlying9 A n c a ha
  have h2 := run_str_of_bytes (P := Try.prog) w 24 9 5 Try.underlying24 Try.underlying5 Try.underlying9 B m d b hb
  have he := Lib.hid (strOf_eq hBa hBb)
  go_enter Try.func13, Try.ntmps13
  go_wp2
  go_ret
  exact ⟨ret_bool he.out, rfl⟩
end Go.Proofs.Ytklefgcackchiaa
