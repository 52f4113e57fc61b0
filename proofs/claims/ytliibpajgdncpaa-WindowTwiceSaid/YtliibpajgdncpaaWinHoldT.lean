/- WindowTwice: its walk at arguments that came in. -/
import Derived.Test.YtliibpajgdncpaaWinTwice0
import Derived.Test.YtliibpajgdncpaaWinTwice1
namespace Go.Proofs.Ytliibpajgdncpaa
open Go.RowKit
theorem WindowTwice_walk (x y : Win.S) (sd : Int) (t : Tcp.T) (w : World) (hx : x.ok) (hy : y.ok) (ws : (Lit.int .u8 sd).wf = true) (ht : t.ok w) :
    Calls Try.prog 9 #[.agg (x.cells ++ y.cells).toArray, .int .u8 sd, .agg t.cells.toArray] w fun e w' => e = .returned (.bool true) ∧ Below w.heap.size w w' := by
  obtain ⟨h0, h1⟩ := bounds_u8 ws
  obtain ⟨xe, xm, xu, xw, xs, xh⟩ := x
  obtain ⟨ye, ym, yu, yw, ys, yh⟩ := y
  obtain ⟨sp, dp, sq, ak, fl, wi, ur, Ao, no, co, Ab, nb, cb, l, body⟩ := t
  rcases (show sd % 2 = 0 ∨ sd % 2 = 1 by omega) with hk | hk
  · exact win_twice0 xe xm xu xw xs xh ye ym yu yw ys yh sd sp dp sq ak fl wi ur Ao no co Ab nb cb l body w ht h0 h1 hk
  · exact win_twice1 xe xm xu xw xs xh ye ym yu yw ys yh sd sp dp sq ak fl wi ur Ao no co Ab nb cb l body w ht h0 h1 hk
end Go.Proofs.Ytliibpajgdncpaa
