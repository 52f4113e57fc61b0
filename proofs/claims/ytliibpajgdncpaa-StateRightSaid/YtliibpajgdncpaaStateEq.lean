/- Two connections compared: the arrays among the fields. -/
import Derived.Test.YtliibpajgdncpaaChecked
import Derived.ChangeKeysEq
import Derived.WalkKit
namespace Go.Proofs.Ytliibpajgdncpaa
open Go.RowKit
theorem eq_bool2 (a b c d : Bool) (w : World) : Sem.run Try.prog (Op.equalIn 9999 22 (.agg #[.bool a, .bool b]) (.agg #[.bool c, .bool d])) w = .ok (a == c && b == d) w := by
  cases a <;> cases b <;> cases c <;> cases d <;> kernel_rfl
theorem eq_u32x2 (a b c d : Int) (w : World) : Sem.run Try.prog (Op.equalIn 9999 24 (.agg #[.int .u32 a, .int .u32 b]) (.agg #[.int .u32 c, .int .u32 d])) w = .ok (a == c && b == d) w := by
  obtain ⟨i, hi⟩ : ∃ i, Try.prog.info? 23 = some i := Option.isSome_iff_exists.1 (by kernel_rfl)
  rw [run_equalIn_array (n := 2) (e := 23) (i := i) (hu := Try.underlying24) (hi := hi)]
  have hc : Try.prog.cellsOf 23 = 1 := by kernel_rfl
  have p0 : ∀ (x y : Int) w, Sem.run Try.prog (part 23 #[.int .u32 x, .int .u32 y] 0) w = .ok (.int .u32 x) w := fun _ _ _ => by kernel_rfl
  have p1 : ∀ (x y : Int) w, Sem.run Try.prog (part 23 #[.int .u32 x, .int .u32 y] 1) w = .ok (.int .u32 y) w := fun _ _ _ => by kernel_rfl
  rw [hc]
  simp [Op.eqItems, List.range_succ, p0, p1, run_equalIn_int _ _ _ _ _ _ _ Try.underlying23]
  by_cases h1 : a = c <;> by_cases h2 : b = d <;> simp [h1, h2]
end Go.Proofs.Ytliibpajgdncpaa
