/- The walk of the reference's Same, at two peers that are the same. -/
import Derived.Test.YtihhcalgjkkalaaPeerRef
namespace Go.Proofs.Ytihhcalgjkkalaa
open Go.RowKit
set_option linter.unusedVariables false
set_option linter.unusedSimpArgs false
set_option maxHeartbeats 4000000 in
theorem rsame_spec (p : Peer.P) (d g : Peer.Sl) (w : World) (h1 : Rd w 1 p.d.A p.d.n (bs p.d.l)) (h2 : Rd w 1 p.g.A p.g.n (bs p.g.l)) (h3 : Rd w 1 d.A d.n (bs p.d.l)) (h4 : Rd w 1 g.A g.n (bs p.g.l)) :
    Calls Try.prog 11 #[.agg #[.int .i64 p.st, .int .i64 p.port, .int .i64 p.to, .int .u32 p.fi, .int .u32 p.un, .int .u32 p.ne, .int .u32 p.wa, .int .i64 p.wi, .int .i64 p.ot, .slice p.d.A p.d.n p.d.c, .slice p.g.A p.g.n p.g.c], .agg #[.int .i64 p.st, .int .i64 p.port, .int .i64 p.to, .int .u32 p.fi, .int .u32 p.un, .int .u32 p.ne, .int .u32 p.wa, .int .i64 p.wi, .int .i64 p.ot, .slice d.A d.n d.c, .slice g.A g.n g.c]] w fun e w' => e = .returned (.bool true) ∧ Below w.heap.size w w' := by
  obtain ⟨W, hW⟩ : ∃ W, W = (w.alloc (.cells #[.int .i64 p.st, .int .i64 p.port, .int .i64 p.to, .int .u32 p.fi, .int .u32 p.un, .int .u32 p.ne, .int .u32 p.wa, .int .i64 p.wi, .int .i64 p.ot, .slice p.d.A p.d.n p.d.c, .slice p.g.A p.g.n p.g.c] 26)).alloc (.cells #[.int .i64 p.st, .int .i64 p.port, .int .i64 p.to, .int .u32 p.fi, .int .u32 p.un, .int .u32 p.ne, .int .u32 p.wa, .int .i64 p.wi, .int .i64 p.ot, .slice d.A d.n d.c, .slice g.A g.n g.c] 26) := ⟨_, rfl⟩
  have hbW : Below w.heap.size w W := by rw [hW]; exact ((Below.refl _ _).alloc (Nat.le_refl _) _).alloc (by simp) _
  have B0 : BlkV W w.heap.size 26 [.int .i64 p.st, .int .i64 p.port, .int .i64 p.to, .int .u32 p.fi, .int .u32 p.un, .int .u32 p.ne, .int .u32 p.wa, .int .i64 p.wi, .int .i64 p.ot, .slice p.d.A p.d.n p.d.c, .slice p.g.A p.g.n p.g.c] := by rw [hW]; exact (BlkV.new w _ _).alloc _
  have B1 : BlkV W (w.heap.size + 1) 26 [.int .i64 p.st, .int .i64 p.port, .int .i64 p.to, .int .u32 p.fi, .int .u32 p.un, .int .u32 p.ne, .int .u32 p.wa, .int .i64 p.wi, .int .i64 p.ot, .slice d.A d.n d.c, .slice g.A g.n g.c] := by rw [hW]; exact BlkV.new_at (w.alloc (.cells #[.int .i64 p.st, .int .i64 p.port, .int .i64 p.to, .int .u32 p.fi, .int .u32 p.un, .int .u32 p.ne, .int .u32 p.wa, .int .i64 p.wi, .int .i64 p.ot, .slice p.d.A p.d.n p.d.c, .slice p.g.A p.g.n p.g.c] 26)) _ _ (by simp)
  have s1 := (fun (W : World) A n c l h => run_str_of_bytes (P := Try.prog) W 23 9 5 Try.underlying23 Try.underlying5 Try.underlying9 A n c l h) W _ _ p.d.c _ (h1.below hbW)
  have s2 := (fun (W : World) A n c l h => run_str_of_bytes (P := Try.prog) W 23 9 5 Try.underlying23 Try.underlying5 Try.underlying9 A n c l h) W _ _ p.g.c _ (h2.below hbW)
  have s3 := (fun (W : World) A n c l h => run_str_of_bytes (P := Try.prog) W 23 9 5 Try.underlying23 Try.underlying5 Try.underlying9 A n c l h) W _ _ d.c _ (h3.below hbW)
  have s4 := (fun (W : World) A n c l h => run_str_of_bytes (P := Try.prog) W 23 9 5 Try.underlying23 Try.underlying5 Try.underlying9 A n c l h) W _ _ g.c _ (h4.below hbW)
  obtain ⟨c0, c1, c2, c3, c4, c5, c6, c7, c8, c9, c10⟩ := cells11 B0
  obtain ⟨k0, k1, k2, k3, k4, k5, k6, k7, k8, k9, k10⟩ := cells11 B1
  clear B0 B1 h1 h2 h3 h4
  subst hW
  go_enter Try.func11, Try.ntmps11
  go_wp2_with fail
  go_ret
  exact ⟨ret_bool (by simp), hbW⟩
end Go.Proofs.Ytihhcalgjkkalaa
