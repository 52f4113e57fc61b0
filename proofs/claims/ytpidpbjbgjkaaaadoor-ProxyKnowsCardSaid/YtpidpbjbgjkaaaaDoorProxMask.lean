/- The flags of a segment as the proxy and its reference ask them; casemateref24.flags and on; proxy.size and casemateref24.mss. -/
import Derived.Test.YtpidpbjbgjkaaaaDoorJ1
import Derived.Test.YtpidpbjbgjkaaaaDoorProxLearn
namespace Go.Proofs.YtpidpbjbgjkaaaaDoor
open Go.RowKit
set_option maxRecDepth 8000
set_option linter.unusedVariables false
set_option linter.unusedSimpArgs false
namespace Prox
/-- the four flags' word, where syn and ack are as said and the others are off -/
def wd (s a : Bool) : Int := (if s then 2 else 0) + (if a then 16 else 0)
theorem decW : ∀ m : Nat, m < 32 → ∀ s a : Bool, ((((m &&& 23 : Nat) : Int) == wd s a) = ((((m &&& 2 : Nat) : Int) != 0) == s && ((((m &&& 16 : Nat) : Int) != 0) == a) && (((m &&& 1 : Nat) : Int) == 0) && (((m &&& 4 : Nat) : Int) == 0))) := by decide
theorem words_has (fl : Int) (s a : Bool) : (Go.bits .and .i64 fl 23 == wd s a) = (((Go.bits .and .i64 fl 2 != 0) == s) && ((Go.bits .and .i64 fl 16 != 0) == a) && (Go.bits .and .i64 fl 1 == 0) && (Go.bits .and .i64 fl 4 == 0)) := by
  have h23 : bits .and .i64 fl 23 = _ := State.bits_low5 fl 23 (by decide)
  have h2 : bits .and .i64 fl 2 = _ := State.bits_low5 fl 2 (by decide)
  have h16 : bits .and .i64 fl 16 = _ := State.bits_low5 fl 16 (by decide)
  have h1 : bits .and .i64 fl 1 = _ := State.bits_low5 fl 1 (by decide)
  have h4 : bits .and .i64 fl 4 = _ := State.bits_low5 fl 4 (by decide)
  rw [h23, h2, h16, h1, h4]
  exact decW _ (State.low_lt fl) s a
/-- the option that tells a size -/
def mssO (g : Nat) (m : Int) : Tcp.Opt := ⟨2, some ⟨g, 0, none⟩, 2, 2, [m / 256, m % 256]⟩
end Prox
set_option maxHeartbeats 4000000 in
theorem rflags_spec (t : Tcp.T) (s a : Bool) (w : World) : Calls Tryd.prog 27 #[.agg #[.int .i64 t.sp, .int .i64 t.dp, .int .u32 t.sq, .int .u32 t.ak, .int .i64 t.fl, .int .i64 t.wi, .int .i64 t.ur, .slice t.Ao t.no t.co, .slice t.Ab t.nb t.cb], .bool s, .bool a] w fun e w' => e = .returned (.bool (Go.bits .and .i64 t.fl 23 == Prox.wd s a)) ∧ Below w.heap.size w w' := by
  obtain ⟨W, hW⟩ : ∃ W, W = w.alloc (.cells #[.int .i64 t.sp, .int .i64 t.dp, .int .u32 t.sq, .int .u32 t.ak, .int .i64 t.fl, .int .i64 t.wi, .int .i64 t.ur, .slice t.Ao t.no t.co, .slice t.Ab t.nb t.cb] 29) := ⟨_, rfl⟩
  have hbW : Below w.heap.size w W := by rw [hW]; exact (Below.refl _ _).alloc (Nat.le_refl _) _
  have c4 := (show BlkV W w.heap.size 29 [.int .i64 t.sp, .int .i64 t.dp, .int .u32 t.sq, .int .u32 t.ak, .int .i64 t.fl, .int .i64 t.wi, .int .i64 t.ur, .slice t.Ao t.no t.co, .slice t.Ab t.nb t.cb] by rw [hW]; exact BlkV.new w _ _).cell (i := 4) rfl
  rw [Prox.words_has]
  obtain ⟨q2, h2⟩ : ∃ q, (Go.bits .and .i64 t.fl 2 != 0) = q := ⟨_, rfl⟩
  obtain ⟨q16, h16⟩ : ∃ q, (Go.bits .and .i64 t.fl 16 != 0) = q := ⟨_, rfl⟩
  obtain ⟨q1, h1⟩ : ∃ q, (Go.bits .and .i64 t.fl 1 == 0) = q := ⟨_, rfl⟩
  obtain ⟨q4, h4⟩ : ∃ q, (Go.bits .and .i64 t.fl 4 == 0) = q := ⟨_, rfl⟩
  rw [h2, h16, h1, h4]
  go_enter Tryd.func27, Tryd.ntmps27
  go_upto_region 1 with (fail)
  rw [← hW]
  clear hW
  cases q2 <;> cases s <;> cases q16 <;> cases a <;> cases q1 <;> cases q4
  all_goals
    go_wp2_with fail
    go_ret
    exact ⟨rfl, hbW⟩
theorem ron_spec (a n : Int) (w : World) (h0 : 0 ≤ a) (h1 : a ≤ 4294967295) (h2 : 0 ≤ n) (h3 : n ≤ 4294967295) : Calls Tryd.prog 28 #[.int .u32 a, .int .u32 n] w fun e w' => e = .returned (.int .u32 ((a + n) % 4294967296)) ∧ w = w' := by
  go_enter Tryd.func28, Tryd.ntmps28
  go_wp2_with fail
  go_ret
  exact ⟨rfl, rfl⟩
def SizeR (m : Int) (w : World) (e : Ending) (w' : World) : Prop :=
  e = .returned (.slice (some ⟨w.heap.size + 1, 0, none⟩) 1 1) ∧ Below w.heap.size w w' ∧ Tcp.OptsRd w' (some ⟨w.heap.size + 1, 0, none⟩) 1 [Prox.mssO w.heap.size m]
theorem sizeR_of (m : Int) (h0 : 0 ≤ m) (h1 : m ≤ 65535) (w : World) (T U : TypeId) :
    Below w.heap.size w ((w.alloc (.cells #[.int .u8 (m / 256), .int .u8 (m % 256)] T)).alloc (.cells #[.int .i64 2, .slice (some ⟨w.heap.size, 0, none⟩) 2 2] U)) ∧ Tcp.OptsRd ((w.alloc (.cells #[.int .u8 (m / 256), .int .u8 (m % 256)] T)).alloc (.cells #[.int .i64 2, .slice (some ⟨w.heap.size, 0, none⟩) 2 2] U)) (some ⟨w.heap.size + 1, 0, none⟩) 1 [Prox.mssO w.heap.size m] := by
  obtain ⟨W, hW⟩ : ∃ W, W = (w.alloc (.cells #[.int .u8 (m / 256), .int .u8 (m % 256)] T)).alloc (.cells #[.int .i64 2, .slice (some ⟨w.heap.size, 0, none⟩) 2 2] U) := ⟨_, rfl⟩
  have hbW : Below w.heap.size w W := by rw [hW]; exact ((Below.refl _ _).alloc (Nat.le_refl _) _).alloc (by simp) _
  have hWs : W.heap.size = w.heap.size + 2 := by rw [hW]; simp
  have B0 : BlkV W w.heap.size T [.int .u8 (m / 256), .int .u8 (m % 256)] := by rw [hW]; exact (BlkV.new w _ _).alloc _
  have B1 : BlkV W (w.heap.size + 1) U [.int .i64 2, .slice (some ⟨w.heap.size, 0, none⟩) 2 2] := by rw [hW]; exact BlkV.new_at (w.alloc (.cells #[.int .u8 (m / 256), .int .u8 (m % 256)] T)) _ _ (by simp)
  rw [← hW]
  refine ⟨hbW, rfl, ?_, fun _ => ⟨_, _, rfl, by omega, ?_⟩⟩
  · intro o ho
    rw [List.mem_singleton] at ho
    subst ho
    refine ⟨?_, ?_, by simp [Prox.mssO], by simp [Prox.mssO], by simp [Prox.mssO], by simp [Prox.mssO]⟩
    · refine ⟨rfl, fun _ => ⟨_, _, rfl, by omega, fun j v hj => B0.cell ?_⟩⟩
      simpa [Prox.mssO, bs] using hj
    · intro x hx
      simp [Prox.mssO] at hx
      omega
  · intro j o hj
    match j, hj with
    | 0, hj =>
      simp at hj
      subst hj
      exact ⟨B1.cell rfl, B1.cell rfl⟩
set_option maxHeartbeats 4000000 in
theorem psize_spec (m : Int) (h0 : 0 ≤ m) (h1 : m ≤ 65535) (w : World) : Calls Tryd.prog 26 #[.int .i64 m] w (SizeR m w) := by
  go_enter Tryd.func26, Tryd.ntmps26
  go_wp2_with fail
  go_ret
  obtain ⟨hb, ho⟩ := sizeR_of m h0 h1 w 5 62
  exact ⟨rfl, hb, ho⟩
set_option maxHeartbeats 4000000 in
theorem rmss_spec (m : Int) (h0 : 0 ≤ m) (h1 : m ≤ 65535) (w : World) : Calls Tryd.prog 29 #[.int .i64 m] w (SizeR m w) := by
  go_enter Tryd.func29, Tryd.ntmps29
  go_wp2_with fail
  go_ret
  obtain ⟨hb, ho⟩ := sizeR_of m h0 h1 w 5 62
  exact ⟨rfl, hb, ho⟩
end Go.Proofs.YtpidpbjbgjkaaaaDoor
