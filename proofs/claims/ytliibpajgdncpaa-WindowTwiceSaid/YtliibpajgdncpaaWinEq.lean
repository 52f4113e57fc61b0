/- Two sides compared with two sides. -/
import Derived.Test.YtliibpajgdncpaaChecked
import Derived.ChangeKeysEq
import Derived.DeepKeys
import Derived.WalkKit
namespace Go.Proofs.Ytliibpajgdncpaa
open Go.RowKit
set_option linter.unusedVariables false
theorem eq_side1 (ae am au aw az : Int) (ah : Bool) (w : World) : Sem.run Try.prog (Op.equalIn 9999 46 (.agg #[.int .u32 ae, .int .u32 am, .int .u32 au, .int .i64 aw, .int .i64 az, .bool ah]) (.agg #[.int .u32 ae, .int .u32 am, .int .u32 au, .int .i64 aw, .int .i64 az, .bool ah])) w = .ok true w := by
  have hu : Try.prog.underlying 46 = some (.struct (Try.prog.fieldsOf 46)) := by kernel_rfl
  have hp : Try.prog.stoodInHeld 46 = false := by kernel_rfl
  rw [run_equalIn_struct w 9998 46 _ _ hu hp]
  have q0 : ∀ w, Sem.run Try.prog (part 23 #[.int .u32 ae, .int .u32 am, .int .u32 au, .int .i64 aw, .int .i64 az, .bool ah] 0) w = .ok (.int .u32 ae) w := fun _ => by kernel_rfl
  have q1 : ∀ w, Sem.run Try.prog (part 23 #[.int .u32 ae, .int .u32 am, .int .u32 au, .int .i64 aw, .int .i64 az, .bool ah] 1) w = .ok (.int .u32 am) w := fun _ => by kernel_rfl
  have q2 : ∀ w, Sem.run Try.prog (part 23 #[.int .u32 ae, .int .u32 am, .int .u32 au, .int .i64 aw, .int .i64 az, .bool ah] 2) w = .ok (.int .u32 au) w := fun _ => by kernel_rfl
  have q3 : ∀ w, Sem.run Try.prog (part 3 #[.int .u32 ae, .int .u32 am, .int .u32 au, .int .i64 aw, .int .i64 az, .bool ah] 3) w = .ok (.int .i64 aw) w := fun _ => by kernel_rfl
  have q4 : ∀ w, Sem.run Try.prog (part 3 #[.int .u32 ae, .int .u32 am, .int .u32 au, .int .i64 aw, .int .i64 az, .bool ah] 4) w = .ok (.int .i64 az) w := fun _ => by kernel_rfl
  have q5 : ∀ w, Sem.run Try.prog (part 4 #[.int .u32 ae, .int .u32 am, .int .u32 au, .int .i64 aw, .int .i64 az, .bool ah] 5) w = .ok (.bool ah) w := fun _ => by kernel_rfl
  simp [Program.fieldsOf, Try.underlying46, Op.eqFields, q0, q1, q2, q3, q4, q5, run_equalIn_int _ _ _ _ _ _ _ Try.underlying23, run_equalIn_int _ _ _ _ _ _ _ Try.underlying3, run_equalIn_bool' _ _ _ _ _ Try.underlying4]
theorem eq_side2 (ae am au aw az be bm bu bw bz : Int) (ah bh : Bool) (w : World) :
    Sem.run Try.prog (Op.equalIn 10000 47 (.agg #[.int .u32 ae, .int .u32 am, .int .u32 au, .int .i64 aw, .int .i64 az, .bool ah, .int .u32 be, .int .u32 bm, .int .u32 bu, .int .i64 bw, .int .i64 bz, .bool bh]) (.agg #[.int .u32 ae, .int .u32 am, .int .u32 au, .int .i64 aw, .int .i64 az, .bool ah, .int .u32 be, .int .u32 bm, .int .u32 bu, .int .i64 bw, .int .i64 bz, .bool bh])) w = .ok true w := by
  obtain ⟨i, hi⟩ : ∃ i, Try.prog.info? 46 = some i := Option.isSome_iff_exists.1 (by kernel_rfl)
  rw [run_equalIn_array (n := 2) (e := 46) (i := i) (hu := Try.underlying47) (hi := hi)]
  have hc : Try.prog.cellsOf 46 = 6 := by kernel_rfl
  have p0 : ∀ (a b c d e f g h i j k l : Value) w, Sem.run Try.prog (part 46 #[a, b, c, d, e, f, g, h, i, j, k, l] 0) w = .ok (.agg #[a, b, c, d, e, f]) w := fun _ _ _ _ _ _ _ _ _ _ _ _ _ => by kernel_rfl
  have p1 : ∀ (a b c d e f g h i j k l : Value) w, Sem.run Try.prog (part 46 #[a, b, c, d, e, f, g, h, i, j, k, l] 6) w = .ok (.agg #[g, h, i, j, k, l]) w := fun _ _ _ _ _ _ _ _ _ _ _ _ _ => by kernel_rfl
  rw [hc]
  simp [Op.eqItems, List.range_succ, p0, p1, eq_side1]
end Go.Proofs.Ytliibpajgdncpaa
