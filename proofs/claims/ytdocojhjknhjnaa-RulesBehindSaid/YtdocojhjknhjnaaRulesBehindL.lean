/- RulesBehind where there are more than sixty rules. -/
import Derived.Test.YtdocojhjknhjnaaRulesBehindP
import Derived.BigQuiet
import Derived.Deep.RegionWith
namespace Go.Proofs.Ytdocojhjknhjnaa
open Go.RowKit
set_option linter.unusedVariables false
set_option maxRecDepth 8000 in
set_option maxHeartbeats 400000 in
theorem rules_behind_long (A : Option Addr) (n c : Nat) (l : List Rules.Rule) (r : Rules.Rule) (fr to : Int) (t : Rules.Tup) (w : World) (hrd : RdRow w A n l) (hRd : Rd w 10 A n (rcells l)) (hr : ∀ r ∈ l, r.wf) (hrr : r.wf) (ht : t.wf) (h60 : 60 < n) :
    Calls Try.prog 4 #[.slice A n c, .agg #[.int .i64 r.fr, .int .i64 r.to, .int .i64 r.proto, .int .u32 r.src, .int .u32 r.dst, .int .i64 r.sb, .int .i64 r.db, .int .i64 r.lo, .int .i64 r.hi, .int .i64 r.act], .int .i64 fr, .int .i64 to, .agg #[.int .i64 t.proto, .int .u32 t.src, .int .i64 t.sport, .int .u32 t.dst, .int .i64 t.dport]] w fun e w' => e = .returned (.bool true) ∧ Below w.heap.size w w' := by
  obtain ⟨W, hW⟩ : ∃ W, W = (w.alloc (.cells #[.int .i64 r.fr, .int .i64 r.to, .int .i64 r.proto, .int .u32 r.src, .int .u32 r.dst, .int .i64 r.sb, .int .i64 r.db, .int .i64 r.lo, .int .i64 r.hi, .int .i64 r.act] 32)).alloc (.cells #[.int .i64 t.proto, .int .u32 t.src, .int .i64 t.sport, .int .u32 t.dst, .int .i64 t.dport] 25) := ⟨_, rfl⟩
  have hbW : Below w.heap.size w W := by rw [hW]; exact ((Below.refl _ _).alloc (Nat.le_refl _) _).alloc (by simp) _
  have Br : RCells W w.heap.size r.cells := by rw [hW]; exact (RCells.new w r.cells 32).below ((Below.refl _ _).alloc (Nat.le_refl _) _)
  have Bt : RCells W (w.heap.size + 1) t.cells := by
    rw [hW]
    have := RCells.new (w.alloc (.cells #[.int .i64 r.fr, .int .i64 r.to, .int .i64 r.proto, .int .u32 r.src, .int .u32 r.dst, .int .i64 r.sb, .int .i64 r.db, .int .i64 r.lo, .int .i64 r.hi, .int .i64 r.act] 32)) t.cells 25
    have e : (w.alloc (.cells #[.int .i64 r.fr, .int .i64 r.to, .int .i64 r.proto, .int .u32 r.src, .int .u32 r.dst, .int .i64 r.sb, .int .i64 r.db, .int .i64 r.lo, .int .i64 r.hi, .int .i64 r.act] 32)).heap.size = w.heap.size + 1 := by simp
    rw [e] at this
    exact this
  have hl := hrd.1
  have h1 : (60 : Int) < (n : Int) := by omega
  go_enter Try.func4, Try.ntmps4
  go_wp2_with fail
  rw [← hW]
  refine (rules_awake _).mono ?_
  rintro e w1 ⟨rfl, hb1⟩
  clear hW hrd hRd hr Br Bt h60
  go_wp2_with fail
  go_quiet (fail)
  go_wp2
  go_ret
  exact ⟨rfl, bel_then hbW (below_drewN hb1 _)⟩
end Go.Proofs.Ytdocojhjknhjnaa
