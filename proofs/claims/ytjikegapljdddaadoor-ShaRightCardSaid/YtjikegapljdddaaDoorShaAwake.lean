/- The fixed answers of sha, reckoned. -/
import Derived.Test.YtjikegapljdddaaDoorShaPlain
namespace Go.Proofs.YtjikegapljdddaaDoor
open Go.RowKit
namespace Sha
set_option maxRecDepth 100000 in
theorem sum_nil : (sum []).getD 0 0 = 227 ∧ (sum []).getD 31 0 = 85 := by decide +kernel
set_option maxRecDepth 100000 in
theorem sum_abc : (sum [97, 98, 99]).getD 0 0 = 186 ∧ (sum [97, 98, 99]).getD 31 0 = 173 := by decide +kernel
end Sha
end Go.Proofs.YtjikegapljdddaaDoor
