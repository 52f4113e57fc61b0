/- Two keys, two cells compared. -/
import Derived.Test.YtdboehogkmidbaaIdxTab
import Derived.ChangeKeysEq
namespace Go.Proofs.Ytdboehogkmidbaa
open Go.RowKit
set_option linter.unusedVariables false
theorem key_dec (k q : Idx.Key) : decide (k = q) = (k.pr == q.pr && k.sr == q.sr && k.sp == q.sp && k.ds == q.ds && k.dp == q.dp) := by
  cases k; cases q
  rw [Bool.eq_iff_iff]
  simp [and_assoc]
theorem eq_key9 (k q : Idx.Key) (w : World) : Sem.run Try.prog (Op.equalIn 9999 29 (.agg #[.int .i64 k.pr, .int .u32 k.sr, .int .i64 k.sp, .int .u32 k.ds, .int .i64 k.dp]) (.agg #[.int .i64 q.pr, .int .u32 q.sr, .int .i64 q.sp, .int .u32 q.ds, .int .i64 q.dp])) w = .ok (decide (k = q)) w := by
  rw [key_dec]
  go_simp
  by_cases h1 : k.pr = q.pr <;> by_cases h2 : k.sr = q.sr <;> by_cases h3 : k.sp = q.sp <;> by_cases h4 : k.ds = q.ds <;> by_cases h5 : k.dp = q.dp <;> simp [h1, h2, h3, h4, h5]
theorem eq_key (k q : Idx.Key) (w : World) : Sem.run Try.prog (Op.equalIn 10000 29 (.agg #[.int .i64 k.pr, .int .u32 k.sr, .int .i64 k.sp, .int .u32 k.ds, .int .i64 k.dp]) (.agg #[.int .i64 q.pr, .int .u32 q.sr, .int .i64 q.sp, .int .u32 q.ds, .int .i64 q.dp])) w = .ok (decide (k = q)) w := by
  rw [key_dec]
  go_simp
  by_cases h1 : k.pr = q.pr <;> by_cases h2 : k.sr = q.sr <;> by_cases h3 : k.sp = q.sp <;> by_cases h4 : k.ds = q.ds <;> by_cases h5 : k.dp = q.dp <;> simp [h1, h2, h3, h4, h5]
attribute [local go_sem ↓] eq_key9 eq_key
theorem eq_cell (x y : Idx.Cell) (w : World) : Sem.run Try.prog (Op.equalIn 10000 82 (.agg #[.bool x.u, .int .i64 x.k.pr, .int .u32 x.k.sr, .int .i64 x.k.sp, .int .u32 x.k.ds, .int .i64 x.k.dp, .int .i64 x.n]) (.agg #[.bool y.u, .int .i64 y.k.pr, .int .u32 y.k.sr, .int .i64 y.k.sp, .int .u32 y.k.ds, .int .i64 y.k.dp, .int .i64 y.n])) w = .ok (decide (x = y)) w := by
  obtain ⟨a, k, n⟩ := x
  obtain ⟨b, q, m⟩ := y
  go_simp
  by_cases h1 : a = b <;> by_cases h2 : k = q <;> by_cases h3 : n = m <;> simp [h1, h2, h3]
theorem eq_cell_nil (x : Idx.Cell) (w : World) : Sem.run Try.prog (Op.equalIn 10000 82 (.agg #[.bool x.u, .int .i64 x.k.pr, .int .u32 x.k.sr, .int .i64 x.k.sp, .int .u32 x.k.ds, .int .i64 x.k.dp, .int .i64 x.n]) (.agg #[.bool false, .int .i64 0, .int .u32 0, .int .i64 0, .int .u32 0, .int .i64 0, .int .i64 0])) w = .ok (decide (x = Idx.Cell.nil)) w :=
  eq_cell x Idx.Cell.nil w
theorem eq_cell_f (k : Idx.Key) (n : Int) (w : World) : Sem.run Try.prog (Op.equalIn 10000 82 (.agg #[.bool false, .int .i64 k.pr, .int .u32 k.sr, .int .i64 k.sp, .int .u32 k.ds, .int .i64 k.dp, .int .i64 n]) (.agg #[.bool false, .int .i64 0, .int .u32 0, .int .i64 0, .int .u32 0, .int .i64 0, .int .i64 0])) w = .ok (decide ((⟨false, k, n⟩ : Idx.Cell) = Idx.Cell.nil)) w :=
  eq_cell ⟨false, k, n⟩ Idx.Cell.nil w
theorem eq_key_nil (x : Idx.Key) (w : World) : Sem.run Try.prog (Op.equalIn 10000 29 (.agg #[.int .i64 x.pr, .int .u32 x.sr, .int .i64 x.sp, .int .u32 x.ds, .int .i64 x.dp]) (.agg #[.int .i64 0, .int .u32 0, .int .i64 0, .int .u32 0, .int .i64 0])) w = .ok (decide (x = Idx.Key.nil)) w :=
  eq_key x Idx.Key.nil w
end Go.Proofs.Ytdboehogkmidbaa
