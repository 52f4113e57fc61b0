/- The walks of proxy.Known and of its reference. The walk of casemateref24.Known. -/
import Derived.Test.YtpidpbjbgjkaaaaDoorProxMask
import Derived.Test.YtpidpbjbgjkaaaaDoorCookCheck
import Derived.Test.YtpidpbjbgjkaaaaDoorCookRefC
import Derived.Test.YtpidpbjbgjkaaaaDoorQuietBel
namespace Go.Proofs.YtpidpbjbgjkaaaaDoor
open Go.RowKit
set_option maxRecDepth 8000
set_option linter.unusedVariables false
set_option linter.unusedSimpArgs false
set_option maxHeartbeats 4000000 in
theorem pknown_no (A : Option Addr) (n c : Nat) (x : Cook.Tup) (t : Tcp.T) (ep : Int) (w : World) (h : (Go.bits .and .i64 t.fl 23 == 16) = false) :
    Calls Tryd.prog 10 #[.slice A n c, .agg #[.int .i64 x.proto, .int .u32 x.src, .int .i64 x.sport, .int .u32 x.dst, .int .i64 x.dport], .agg #[.int .i64 t.sp, .int .i64 t.dp, .int .u32 t.sq, .int .u32 t.ak, .int .i64 t.fl, .int .i64 t.wi, .int .i64 t.ur, .slice t.Ao t.no t.co, .slice t.Ab t.nb t.cb], .int .i64 ep] w fun e w' => e = .returned (.tuple #[.int .i64 0, .bool false]) ∧ Below w.heap.size w w' := by
  obtain ⟨W, hW⟩ : ∃ W, W = (w.alloc (.cells #[.int .i64 x.proto, .int .u32 x.src, .int .i64 x.sport, .int .u32 x.dst, .int .i64 x.dport] 25)).alloc (.cells #[.int .i64 t.sp, .int .i64 t.dp, .int .u32 t.sq, .int .u32 t.ak, .int .i64 t.fl, .int .i64 t.wi, .int .i64 t.ur, .slice t.Ao t.no t.co, .slice t.Ab t.nb t.cb] 29) := ⟨_, rfl⟩
  have hbW : Below w.heap.size w W := by rw [hW]; exact ((Below.refl _ _).alloc (Nat.le_refl _) _).alloc (by simp) _
  have B0 : BlkV W (w.heap.size + 1) 29 [.int .i64 t.sp, .int .i64 t.dp, .int .u32 t.sq, .int .u32 t.ak, .int .i64 t.fl, .int .i64 t.wi, .int .i64 t.ur, .slice t.Ao t.no t.co, .slice t.Ab t.nb t.cb] := by rw [hW]; exact BlkV.new_at (w.alloc (.cells #[.int .i64 x.proto, .int .u32 x.src, .int .i64 x.sport, .int .u32 x.dst, .int .i64 x.dport] 25)) _ _ (by simp)
  have HW1 := Lib.hid (fun w => pwords_spec t w)
  have hne : (Go.bits .and .i64 t.fl 23 != 16) = true := by rw [bne, h]; rfl
  obtain ⟨y, hy⟩ : ∃ y, Go.bits .and .i64 t.fl 23 = y := ⟨_, rfl⟩
  rw [hy] at HW1 hne
  go_enter Tryd.func10, Tryd.ntmps10
  go_upto_region 1 with (fail)
  rw [← hW]
  clear hW
  go_wp2_with (refine wpList_ldB 29 _ _ (by with_reducible rfl) rfl (by rfl) B0 Tryd.underlying29 rfl (tcp_size (by rfl)) ?_)
  refine (HW1.out W).mono ?_
  rintro e w1 ⟨rfl, hb1⟩
  have hbw1 := bel_then hbW hb1
  go_wp2_with fail
  go_ret2
  exact ⟨rfl, hbw1⟩
set_option maxHeartbeats 8000000 in
theorem pknown_ok (A : Option Addr) (n c : Nat) (rs : List Mac.Key) (x : Cook.Tup) (hx : x.wf) (t : Tcp.T) (ep : Int) (w : World) (hT : Tabs w) (hr : Mac.Ring w A n rs) (hbig : n ≤ 9223372036854775807) (h : (Go.bits .and .i64 t.fl 23 == 16) = true) :
    Calls Tryd.prog 10 #[.slice A n c, .agg #[.int .i64 x.proto, .int .u32 x.src, .int .i64 x.sport, .int .u32 x.dst, .int .i64 x.dport], .agg #[.int .i64 t.sp, .int .i64 t.dp, .int .u32 t.sq, .int .u32 t.ak, .int .i64 t.fl, .int .i64 t.wi, .int .i64 t.ur, .slice t.Ao t.no t.co, .slice t.Ab t.nb t.cb], .int .i64 ep] w fun e w' => e = .returned (.tuple #[.int .i64 (Cook.checkN (rs.map (·.l)) x (Seq.step t.sq (-1)) ep (Seq.step t.ak (-1))), .bool (Cook.checkB (rs.map (·.l)) x (Seq.step t.sq (-1)) ep (Seq.step t.ak (-1)))]) ∧ Below w.heap.size w w' := by
  obtain ⟨W, hW⟩ : ∃ W, W = (w.alloc (.cells #[.int .i64 x.proto, .int .u32 x.src, .int .i64 x.sport, .int .u32 x.dst, .int .i64 x.dport] 25)).alloc (.cells #[.int .i64 t.sp, .int .i64 t.dp, .int .u32 t.sq, .int .u32 t.ak, .int .i64 t.fl, .int .i64 t.wi, .int .i64 t.ur, .slice t.Ao t.no t.co, .slice t.Ab t.nb t.cb] 29) := ⟨_, rfl⟩
  have hbW : Below w.heap.size w W := by rw [hW]; exact ((Below.refl _ _).alloc (Nat.le_refl _) _).alloc (by simp) _
  have B1 : BlkV W w.heap.size 25 [.int .i64 x.proto, .int .u32 x.src, .int .i64 x.sport, .int .u32 x.dst, .int .i64 x.dport] := by rw [hW]; exact (BlkV.new w _ _).alloc _
  have B0 : BlkV W (w.heap.size + 1) 29 [.int .i64 t.sp, .int .i64 t.dp, .int .u32 t.sq, .int .u32 t.ak, .int .i64 t.fl, .int .i64 t.wi, .int .i64 t.ur, .slice t.Ao t.no t.co, .slice t.Ab t.nb t.cb] := by rw [hW]; exact BlkV.new_at (w.alloc (.cells #[.int .i64 x.proto, .int .u32 x.src, .int .i64 x.sport, .int .u32 x.dst, .int .i64 x.dport] 25)) _ _ (by simp)
  have HW1 := Lib.hid (fun w => pwords_spec t w)
  have hne : (Go.bits .and .i64 t.fl 23 != 16) = false := by rw [bne, h]; rfl
  obtain ⟨y, hy⟩ : ∃ y, Go.bits .and .i64 t.fl 23 = y := ⟨_, rfl⟩
  rw [hy] at HW1 hne
  have HS1 : Hid (∀ w', Calls Tryd.prog 21 #[.int .u32 t.sq, .int .i64 (-1)] w' fun e w'' => e = .returned (.int .u32 (Seq.step t.sq (-1))) ∧ Below w'.heap.size w' w'') := Lib.hid fun w' => (seq_step t.sq (-1) w').mono fun _ _ ⟨a, b⟩ => ⟨a, by rw [← b]; exact Below.refl _ _⟩
  have HS2 : Hid (∀ w', Calls Tryd.prog 21 #[.int .u32 t.ak, .int .i64 (-1)] w' fun e w'' => e = .returned (.int .u32 (Seq.step t.ak (-1))) ∧ Below w'.heap.size w' w'') := Lib.hid fun w' => (seq_step t.ak (-1) w').mono fun _ _ ⟨a, b⟩ => ⟨a, by rw [← b]; exact Below.refl _ _⟩
  have HC : Hid (∀ w', Below w.heap.size w w' → Calls Tryd.prog 30 #[.slice A n c, .agg #[.int .i64 x.proto, .int .u32 x.src, .int .i64 x.sport, .int .u32 x.dst, .int .i64 x.dport], .int .u32 (Seq.step t.sq (-1)), .int .i64 ep, .int .u32 (Seq.step t.ak (-1))] w' fun e w'' => e = .returned (.tuple #[.int .i64 (Cook.checkN (rs.map (·.l)) x (Seq.step t.sq (-1)) ep (Seq.step t.ak (-1))), .bool (Cook.checkB (rs.map (·.l)) x (Seq.step t.sq (-1)) ep (Seq.step t.ak (-1)))]) ∧ Below w'.heap.size w' w'') :=
    Lib.hid fun w' hb => ccheck_spec A n c rs x hx _ ep _ (by simp only [Seq.step]; omega) (by simp only [Seq.step]; omega) (by simp only [Seq.step]; omega) (by simp only [Seq.step]; omega) w' (hT.below hb) (hr.below hb) hbig
  go_enter Tryd.func10, Tryd.ntmps10
  go_upto_region 1 with (fail)
  rw [← hW]
  clear hW
  go_wp2_with (refine wpList_ldB 29 _ _ (by with_reducible rfl) rfl (by rfl) B0 Tryd.underlying29 rfl (tcp_size (by rfl)) ?_)
  refine (HW1.out W).mono ?_
  rintro e w1 ⟨rfl, hb1⟩
  have hbw1 := bel_then hbW hb1
  have B0a := B0.below hb1
  have B1a := B1.below hb1
  have a0 : ∀ p : BelBy w1, p.v.cell? ⟨w.heap.size, 0, none⟩ = some (.int .i64 x.proto) := fun p => (B1a.below p.h).cell rfl
  have a1 : ∀ p : BelBy w1, p.v.cell? ⟨w.heap.size, 1, none⟩ = some (.int .u32 x.src) := fun p => (B1a.below p.h).cell rfl
  have a2 : ∀ p : BelBy w1, p.v.cell? ⟨w.heap.size, 2, none⟩ = some (.int .i64 x.sport) := fun p => (B1a.below p.h).cell rfl
  have a3 : ∀ p : BelBy w1, p.v.cell? ⟨w.heap.size, 3, none⟩ = some (.int .u32 x.dst) := fun p => (B1a.below p.h).cell rfl
  have a4 : ∀ p : BelBy w1, p.v.cell? ⟨w.heap.size, 4, none⟩ = some (.int .i64 x.dport) := fun p => (B1a.below p.h).cell rfl
  have b2 : ∀ p : BelBy w1, p.v.cell? ⟨w.heap.size + 1, 2, none⟩ = some (.int .u32 t.sq) := fun p => (B0a.below p.h).cell rfl
  have b3 : ∀ p : BelBy w1, p.v.cell? ⟨w.heap.size + 1, 3, none⟩ = some (.int .u32 t.ak) := fun p => (B0a.below p.h).cell rfl
  clear B0 B1 B0a B1a HW1 hne hb1
  go_upto_region 3 with (fail)
  refine wp_region_quiet_bel (by kernel_rfl) (by kernel_rfl) ?_
  repeat (go_big_quiet_step (with_reducible first | exact calls_bel (HS1.out _) | exact calls_bel (HS2.out _) | exact calls_bel (HC.out _ (bel_then hbw1 (BelBy.h _)))))
  refine wpQuiet_nil ?_
  intro _ hw'
  obtain ⟨⟨wq, hbq⟩, hw''⟩ := hw'
  have hw3 : _ = wq := hw''
  clear hw''
  subst hw3
  go_wp2_with fail
  go_ret2
  exact ⟨rfl, bel_then hbw1 hbq⟩
end Go.Proofs.YtpidpbjbgjkaaaaDoor
namespace Go.Proofs.YtpidpbjbgjkaaaaDoor
open Go.RowKit
set_option maxRecDepth 8000
set_option linter.unusedVariables false
set_option linter.unusedSimpArgs false
set_option maxHeartbeats 4000000 in
theorem rknown_no (A : Option Addr) (n c : Nat) (x : Cook.Tup) (t : Tcp.T) (ep : Int) (w : World) (h : (Go.bits .and .i64 t.fl 23 == 16) = false) :
    Calls Tryd.prog 11 #[.slice A n c, .agg #[.int .i64 x.proto, .int .u32 x.src, .int .i64 x.sport, .int .u32 x.dst, .int .i64 x.dport], .agg #[.int .i64 t.sp, .int .i64 t.dp, .int .u32 t.sq, .int .u32 t.ak, .int .i64 t.fl, .int .i64 t.wi, .int .i64 t.ur, .slice t.Ao t.no t.co, .slice t.Ab t.nb t.cb], .int .i64 ep] w fun e w' => e = .returned (.tuple #[.int .i64 0, .bool false]) ∧ Below w.heap.size w w' := by
  obtain ⟨W, hW⟩ : ∃ W, W = (w.alloc (.cells #[.int .i64 x.proto, .int .u32 x.src, .int .i64 x.sport, .int .u32 x.dst, .int .i64 x.dport] 25)).alloc (.cells #[.int .i64 t.sp, .int .i64 t.dp, .int .u32 t.sq, .int .u32 t.ak, .int .i64 t.fl, .int .i64 t.wi, .int .i64 t.ur, .slice t.Ao t.no t.co, .slice t.Ab t.nb t.cb] 29) := ⟨_, rfl⟩
  have hbW : Below w.heap.size w W := by rw [hW]; exact ((Below.refl _ _).alloc (Nat.le_refl _) _).alloc (by simp) _
  have B0 : BlkV W (w.heap.size + 1) 29 [.int .i64 t.sp, .int .i64 t.dp, .int .u32 t.sq, .int .u32 t.ak, .int .i64 t.fl, .int .i64 t.wi, .int .i64 t.ur, .slice t.Ao t.no t.co, .slice t.Ab t.nb t.cb] := by rw [hW]; exact BlkV.new_at (w.alloc (.cells #[.int .i64 x.proto, .int .u32 x.src, .int .i64 x.sport, .int .u32 x.dst, .int .i64 x.dport] 25)) _ _ (by simp)
  have HW1 := Lib.hid (fun w => rflags_spec t false true w)
  rw [show Prox.wd false true = 16 from rfl, h] at HW1
  go_enter Tryd.func11, Tryd.ntmps11
  go_upto_region 1 with (fail)
  rw [← hW]
  clear hW
  go_wp2_with (refine wpList_ldB 29 _ _ (by with_reducible rfl) rfl (by rfl) B0 Tryd.underlying29 rfl (tcp_size (by rfl)) ?_)
  refine (HW1.out W).mono ?_
  rintro e w1 ⟨rfl, hb1⟩
  have hbw1 := bel_then hbW hb1
  go_wp2_with fail
  go_ret2
  exact ⟨rfl, hbw1⟩
set_option maxHeartbeats 8000000 in
theorem rknown_ok (A : Option Addr) (n c : Nat) (rs : List Mac.Key) (x : Cook.Tup) (hx : x.wf) (t : Tcp.T) (ep : Int) (w : World) (hT : TabK w) (hr : Mac.Ring w A n rs) (hbig : n ≤ 9223372036854775807) (hsq : 0 ≤ t.sq ∧ t.sq ≤ 4294967295) (hak : 0 ≤ t.ak ∧ t.ak ≤ 4294967295) (h : (Go.bits .and .i64 t.fl 23 == 16) = true) :
    Calls Tryd.prog 11 #[.slice A n c, .agg #[.int .i64 x.proto, .int .u32 x.src, .int .i64 x.sport, .int .u32 x.dst, .int .i64 x.dport], .agg #[.int .i64 t.sp, .int .i64 t.dp, .int .u32 t.sq, .int .u32 t.ak, .int .i64 t.fl, .int .i64 t.wi, .int .i64 t.ur, .slice t.Ao t.no t.co, .slice t.Ab t.nb t.cb], .int .i64 ep] w fun e w' => e = .returned (.tuple #[.int .i64 (Cook.checkN (rs.map (·.l)) x (Seq.step t.sq (-1)) ep (Seq.step t.ak (-1))), .bool (Cook.checkB (rs.map (·.l)) x (Seq.step t.sq (-1)) ep (Seq.step t.ak (-1)))]) ∧ Below w.heap.size w w' := by
  obtain ⟨W, hW⟩ : ∃ W, W = (w.alloc (.cells #[.int .i64 x.proto, .int .u32 x.src, .int .i64 x.sport, .int .u32 x.dst, .int .i64 x.dport] 25)).alloc (.cells #[.int .i64 t.sp, .int .i64 t.dp, .int .u32 t.sq, .int .u32 t.ak, .int .i64 t.fl, .int .i64 t.wi, .int .i64 t.ur, .slice t.Ao t.no t.co, .slice t.Ab t.nb t.cb] 29) := ⟨_, rfl⟩
  have hbW : Below w.heap.size w W := by rw [hW]; exact ((Below.refl _ _).alloc (Nat.le_refl _) _).alloc (by simp) _
  have B1 : BlkV W w.heap.size 25 [.int .i64 x.proto, .int .u32 x.src, .int .i64 x.sport, .int .u32 x.dst, .int .i64 x.dport] := by rw [hW]; exact (BlkV.new w _ _).alloc _
  have B0 : BlkV W (w.heap.size + 1) 29 [.int .i64 t.sp, .int .i64 t.dp, .int .u32 t.sq, .int .u32 t.ak, .int .i64 t.fl, .int .i64 t.wi, .int .i64 t.ur, .slice t.Ao t.no t.co, .slice t.Ab t.nb t.cb] := by rw [hW]; exact BlkV.new_at (w.alloc (.cells #[.int .i64 x.proto, .int .u32 x.src, .int .i64 x.sport, .int .u32 x.dst, .int .i64 x.dport] 25)) _ _ (by simp)
  have HW1 := Lib.hid (fun w => rflags_spec t false true w)
  rw [show Prox.wd false true = 16 from rfl, h] at HW1
  have HS1 : Hid (∀ w', Calls Tryd.prog 28 #[.int .u32 t.sq, .int .u32 4294967295] w' fun e w'' => e = .returned (.int .u32 (Seq.step t.sq (-1))) ∧ Below w'.heap.size w' w'') := Lib.hid fun w' => (ron_spec t.sq 4294967295 w' hsq.1 hsq.2 (by decide) (by decide)).mono fun _ _ ⟨a, b⟩ => ⟨by rw [a, show (t.sq + 4294967295) % 4294967296 = Seq.step t.sq (-1) by (simp only [Seq.step]; omega)], by rw [← b]; exact Below.refl _ _⟩
  have HS2 : Hid (∀ w', Calls Tryd.prog 28 #[.int .u32 t.ak, .int .u32 4294967295] w' fun e w'' => e = .returned (.int .u32 (Seq.step t.ak (-1))) ∧ Below w'.heap.size w' w'') := Lib.hid fun w' => (ron_spec t.ak 4294967295 w' hak.1 hak.2 (by decide) (by decide)).mono fun _ _ ⟨a, b⟩ => ⟨by rw [a, show (t.ak + 4294967295) % 4294967296 = Seq.step t.ak (-1) by (simp only [Seq.step]; omega)], by rw [← b]; exact Below.refl _ _⟩
  have HC : Hid (∀ w', Below w.heap.size w w' → Calls Tryd.prog 31 #[.slice A n c, .agg #[.int .i64 x.proto, .int .u32 x.src, .int .i64 x.sport, .int .u32 x.dst, .int .i64 x.dport], .int .u32 (Seq.step t.sq (-1)), .int .i64 ep, .int .u32 (Seq.step t.ak (-1))] w' fun e w'' => e = .returned (.tuple #[.int .i64 (Cook.checkN (rs.map (·.l)) x (Seq.step t.sq (-1)) ep (Seq.step t.ak (-1))), .bool (Cook.checkB (rs.map (·.l)) x (Seq.step t.sq (-1)) ep (Seq.step t.ak (-1)))]) ∧ Below w'.heap.size w' w'') :=
    Lib.hid fun w' hb => rcheck_spec A n c rs x hx _ ep _ (by simp only [Seq.step]; omega) (by simp only [Seq.step]; omega) (by simp only [Seq.step]; omega) (by simp only [Seq.step]; omega) w' (hT.below hb) (hr.below hb) hbig
  go_enter Tryd.func11, Tryd.ntmps11
  go_upto_region 1 with (fail)
  rw [← hW]
  clear hW
  go_wp2_with (refine wpList_ldB 29 _ _ (by with_reducible rfl) rfl (by rfl) B0 Tryd.underlying29 rfl (tcp_size (by rfl)) ?_)
  refine (HW1.out W).mono ?_
  rintro e w1 ⟨rfl, hb1⟩
  have hbw1 := bel_then hbW hb1
  have B0a := B0.below hb1
  have B1a := B1.below hb1
  have a0 : ∀ p : BelBy w1, p.v.cell? ⟨w.heap.size, 0, none⟩ = some (.int .i64 x.proto) := fun p => (B1a.below p.h).cell rfl
  have a1 : ∀ p : BelBy w1, p.v.cell? ⟨w.heap.size, 1, none⟩ = some (.int .u32 x.src) := fun p => (B1a.below p.h).cell rfl
  have a2 : ∀ p : BelBy w1, p.v.cell? ⟨w.heap.size, 2, none⟩ = some (.int .i64 x.sport) := fun p => (B1a.below p.h).cell rfl
  have a3 : ∀ p : BelBy w1, p.v.cell? ⟨w.heap.size, 3, none⟩ = some (.int .u32 x.dst) := fun p => (B1a.below p.h).cell rfl
  have a4 : ∀ p : BelBy w1, p.v.cell? ⟨w.heap.size, 4, none⟩ = some (.int .i64 x.dport) := fun p => (B1a.below p.h).cell rfl
  have b2 : ∀ p : BelBy w1, p.v.cell? ⟨w.heap.size + 1, 2, none⟩ = some (.int .u32 t.sq) := fun p => (B0a.below p.h).cell rfl
  have b3 : ∀ p : BelBy w1, p.v.cell? ⟨w.heap.size + 1, 3, none⟩ = some (.int .u32 t.ak) := fun p => (B0a.below p.h).cell rfl
  clear B0 B1 B0a B1a HW1 hb1
  go_upto_region 3 with (fail)
  refine wp_region_quiet_bel (by kernel_rfl) (by kernel_rfl) ?_
  repeat (go_big_quiet_step (with_reducible first | exact calls_bel (HS1.out _) | exact calls_bel (HS2.out _) | exact calls_bel (HC.out _ (bel_then hbw1 (BelBy.h _)))))
  refine wpQuiet_nil ?_
  intro _ hw'
  obtain ⟨⟨wq, hbq⟩, hw''⟩ := hw'
  have hw3 : _ = wq := hw''
  clear hw''
  subst hw3
  go_wp2_with fail
  go_ret2
  exact ⟨rfl, bel_then hbw1 hbq⟩
end Go.Proofs.YtpidpbjbgjkaaaaDoor
