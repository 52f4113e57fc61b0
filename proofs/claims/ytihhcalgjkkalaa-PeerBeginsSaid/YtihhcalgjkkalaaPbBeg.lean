/- The walks of casemateref31.Begins, and of begins: is what each has got a beginning of what the other one says? -/
import Derived.Test.YtihhcalgjkkalaaPbMem
import Derived.Test.YtihhcalgjkkalaaPeerSame
namespace Go.Proofs.Ytihhcalgjkkalaa
open Go.RowKit
set_option linter.unusedVariables false
set_option linter.unusedSimpArgs false
set_option maxHeartbeats 4000000 in
theorem rbegins_spec (A : Option Addr) (n c : Nat) (la : List Int) (B : Option Addr) (m d : Nat) (lb : List Int) (w : World) (h1 : Rd w 1 A n (bs la)) (h2 : Rd w 1 B m (bs lb)) (hnm : n ≤ m) (hmd : m ≤ d) (he : la = lb.take n) :
    Calls Try.prog 29 #[.slice A n c, .slice B m d] w fun e w' => e = .returned (.bool true) ∧ Below w.heap.size w w' := by
  have h3 : Rd w 1 B n (bs la) := by rw [he]; exact h2.btake hnm
  have s1 := fun q => (fun (W : World) A n c l h => run_str_of_bytes (P := Try.prog) W 23 9 5 Try.underlying23 Try.underlying5 Try.underlying9 A n c l h) (w.drewN q) A n c la (h1.drewN q)
  have s2 := fun q => (fun (W : World) A n c l h => run_str_of_bytes (P := Try.prog) W 23 9 5 Try.underlying23 Try.underlying5 Try.underlying9 A n c l h) (w.drewN q) B n d la (h3.drewN q)
  have hnm' : (n : Int) ≤ (m : Int) := by omega
  have hnd : n ≤ d := by omega
  have hnd' : (n : Int) ≤ (d : Int) := by omega
  clear h1 h2 h3 he
  go_enter Try.func29, Try.ntmps29
  go_upto_region 1 with (fail)
  go_quiet (fail)
  go_wp2_with fail
  go_ret
  exact ⟨ret_bool (by simp), bel_n (Below.refl _ _) _⟩
set_option maxHeartbeats 8000000 in
theorem begins_spec (w0 w : World) (g : Nat) (z : Two) (h : TwoM w0 g z w) (hr0 : Pb.rightC z.P0.con = true) (hr1 : Pb.rightC z.P1.con = true) (n0 : z.P0.g.n ≤ z.P1.d.n) (n1 : z.P1.g.n ≤ z.P0.d.n) (e0 : z.P0.g.l = z.P1.d.l.take z.P0.g.n) (e1 : z.P1.g.l = z.P0.d.l.take z.P1.g.n) :
    Calls Try.prog 16 #[.pointer (some ⟨g, 0, none⟩)] w fun e w' => e = .returned (.bool true) ∧ Below w.heap.size w w' := by
  have a0 : ∀ b : BelBy w, b.v.cell? ⟨g, 0, none⟩ = some (.int .i64 z.P0.st) := fun b => cellF (h.blk.below b.h) 0 rfl
  have a1 : ∀ b : BelBy w, b.v.cell? ⟨g, 1, none⟩ = some (.int .i64 z.P0.port) := fun b => cellF (h.blk.below b.h) 1 rfl
  have a2 : ∀ b : BelBy w, b.v.cell? ⟨g, 2, none⟩ = some (.int .i64 z.P0.to) := fun b => cellF (h.blk.below b.h) 2 rfl
  have a3 : ∀ b : BelBy w, b.v.cell? ⟨g, 3, none⟩ = some (.int .u32 z.P0.fi) := fun b => cellF (h.blk.below b.h) 3 rfl
  have a4 : ∀ b : BelBy w, b.v.cell? ⟨g, 4, none⟩ = some (.int .u32 z.P0.un) := fun b => cellF (h.blk.below b.h) 4 rfl
  have a5 : ∀ b : BelBy w, b.v.cell? ⟨g, 5, none⟩ = some (.int .u32 z.P0.ne) := fun b => cellF (h.blk.below b.h) 5 rfl
  have a6 : ∀ b : BelBy w, b.v.cell? ⟨g, 6, none⟩ = some (.int .u32 z.P0.wa) := fun b => cellF (h.blk.below b.h) 6 rfl
  have a7 : ∀ b : BelBy w, b.v.cell? ⟨g, 7, none⟩ = some (.int .i64 z.P0.wi) := fun b => cellF (h.blk.below b.h) 7 rfl
  have a8 : ∀ b : BelBy w, b.v.cell? ⟨g, 8, none⟩ = some (.int .i64 z.P0.ot) := fun b => cellF (h.blk.below b.h) 8 rfl
  have a9 : ∀ b : BelBy w, b.v.cell? ⟨g, 9, none⟩ = some (.slice z.P0.d.A z.P0.d.n z.P0.d.c) := fun b => cellF (h.blk.below b.h) 9 rfl
  have a10 : ∀ b : BelBy w, b.v.cell? ⟨g, 10, none⟩ = some (.slice z.P0.g.A z.P0.g.n z.P0.g.c) := fun b => cellF (h.blk.below b.h) 10 rfl
  have a11 : ∀ b : BelBy w, b.v.cell? ⟨g, 11, none⟩ = some (.int .i64 z.P1.st) := fun b => cellF (h.blk.below b.h) 11 rfl
  have a12 : ∀ b : BelBy w, b.v.cell? ⟨g, 12, none⟩ = some (.int .i64 z.P1.port) := fun b => cellF (h.blk.below b.h) 12 rfl
  have a13 : ∀ b : BelBy w, b.v.cell? ⟨g, 13, none⟩ = some (.int .i64 z.P1.to) := fun b => cellF (h.blk.below b.h) 13 rfl
  have a14 : ∀ b : BelBy w, b.v.cell? ⟨g, 14, none⟩ = some (.int .u32 z.P1.fi) := fun b => cellF (h.blk.below b.h) 14 rfl
  have a15 : ∀ b : BelBy w, b.v.cell? ⟨g, 15, none⟩ = some (.int .u32 z.P1.un) := fun b => cellF (h.blk.below b.h) 15 rfl
  have a16 : ∀ b : BelBy w, b.v.cell? ⟨g, 16, none⟩ = some (.int .u32 z.P1.ne) := fun b => cellF (h.blk.below b.h) 16 rfl
  have a17 : ∀ b : BelBy w, b.v.cell? ⟨g, 17, none⟩ = some (.int .u32 z.P1.wa) := fun b => cellF (h.blk.below b.h) 17 rfl
  have a18 : ∀ b : BelBy w, b.v.cell? ⟨g, 18, none⟩ = some (.int .i64 z.P1.wi) := fun b => cellF (h.blk.below b.h) 18 rfl
  have a19 : ∀ b : BelBy w, b.v.cell? ⟨g, 19, none⟩ = some (.int .i64 z.P1.ot) := fun b => cellF (h.blk.below b.h) 19 rfl
  have a20 : ∀ b : BelBy w, b.v.cell? ⟨g, 20, none⟩ = some (.slice z.P1.d.A z.P1.d.n z.P1.d.c) := fun b => cellF (h.blk.below b.h) 20 rfl
  have a21 : ∀ b : BelBy w, b.v.cell? ⟨g, 21, none⟩ = some (.slice z.P1.g.A z.P1.g.n z.P1.g.c) := fun b => cellF (h.blk.below b.h) 21 rfl
  have HB0 : Hid (∀ b : BelBy w, Calls Try.prog 29 #[.slice z.P0.g.A z.P0.g.n z.P0.g.c, .slice z.P1.d.A z.P1.d.n z.P1.d.c] b.v fun e w' => e = .returned (.bool true) ∧ Below b.v.heap.size b.v w') := Lib.hid fun b => rbegins_spec _ _ _ _ _ _ _ _ _ ((h.o0.g.below b.h).rd) ((h.o1.d.below b.h).rd) n0 (own_cap h.o1.d.own) e0
  have HB1 : Hid (∀ b : BelBy w, Calls Try.prog 29 #[.slice z.P1.g.A z.P1.g.n z.P1.g.c, .slice z.P0.d.A z.P0.d.n z.P0.d.c] b.v fun e w' => e = .returned (.bool true) ∧ Below b.v.heap.size b.v w') := Lib.hid fun b => rbegins_spec _ _ _ _ _ _ _ _ _ ((h.o1.g.below b.h).rd) ((h.o0.d.below b.h).rd) n1 (own_cap h.o0.d.own) e1
  have HR0 := Lib.hid (fun w => pright_spec z.P0 w (Nat.le_trans h.o0.d.le (by decide)))
  have HR1 := Lib.hid (fun w => pright_spec z.P1 w (Nat.le_trans h.o1.d.le (by decide)))
  rw [(Peer.right_con h.o0.d.len h.o0.g.len).trans hr0] at HR0
  rw [(Peer.right_con h.o1.d.len h.o1.g.len).trans hr1] at HR1
  clear h hr0 hr1 n0 n1 e0 e1
  go_enter Try.func16, Try.ntmps16
  go_upto_region 1 with (fail)
  refine wp_region_quiet_bel (by kernel_rfl) (by kernel_rfl) ?_
  repeat (go_big_quiet_step (with_reducible first | exact calls_bel (HB0.out _) | exact calls_bel (HB1.out _) | exact calls_bel (HR0.out (BelBy.v _)) | exact calls_bel (HR1.out (BelBy.v _))))
  refine wpQuiet_nil ?_
  intro _ hw'
  obtain ⟨⟨wq, hbq⟩, hw''⟩ := hw'
  have hw3 : _ = wq := hw''
  clear hw''
  subst hw3
  go_wp2_with fail
  go_ret
  exact ⟨rfl, hbq⟩
end Go.Proofs.Ytihhcalgjkkalaa
