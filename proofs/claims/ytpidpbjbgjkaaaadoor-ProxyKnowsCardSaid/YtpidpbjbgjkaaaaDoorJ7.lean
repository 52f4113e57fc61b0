/- The walk of proxy.Learn where it refuses. The walks of proxy.Known and of its reference. The walk of the cookie laws' awake; what is made is known. -/
import Derived.Test.YtpidpbjbgjkaaaaDoorJ5
import Derived.Test.YtpidpbjbgjkaaaaDoorProxMask
import Derived.Test.YtpidpbjbgjkaaaaDoorCookCheck
import Derived.Test.YtpidpbjbgjkaaaaDoorCookRefC
import Derived.Test.YtpidpbjbgjkaaaaDoorQuietBel
import Derived.Lib.SlBytesConst
namespace Go.Proofs.YtpidpbjbgjkaaaaDoor
open Go.RowKit
set_option maxRecDepth 8000
set_option linter.unusedVariables false
set_option linter.unusedSimpArgs false
def LearnNo (w : World) (e : Ending) (w' : World) : Prop :=
  e = .returned (.tuple #[.agg #[.int .u32 0, .int .u32 0], .agg #[.int .i64 0, .int .i64 0, .int .u32 0, .int .u32 0, .int .i64 0, .int .i64 0, .int .i64 0, .slice none 0 0, .slice none 0 0], .int .i64 14]) ∧ Below w.heap.size w w'
set_option maxHeartbeats 4000000 in
theorem plearn_no (t u : Tcp.T) (st : Int) (w : World) (q1 q2 q3 : Bool) (h1 : (Go.bits .and .i64 t.fl 23 == 16) = q1) (h2 : (Go.bits .and .i64 u.fl 23 == 18) = q2) (h3 : (u.ak == t.sq) = q3) (hq : (q1 && q2 && q3) = false) :
    Calls Tryd.prog 15 #[.agg #[.int .i64 t.sp, .int .i64 t.dp, .int .u32 t.sq, .int .u32 t.ak, .int .i64 t.fl, .int .i64 t.wi, .int .i64 t.ur, .slice t.Ao t.no t.co, .slice t.Ab t.nb t.cb], .agg #[.int .i64 u.sp, .int .i64 u.dp, .int .u32 u.sq, .int .u32 u.ak, .int .i64 u.fl, .int .i64 u.wi, .int .i64 u.ur, .slice u.Ao u.no u.co, .slice u.Ab u.nb u.cb], .int .u32 st] w (LearnNo w) := by
  obtain ⟨W, hW⟩ : ∃ W, W = (((w.alloc (.cells #[.int .i64 t.sp, .int .i64 t.dp, .int .u32 t.sq, .int .u32 t.ak, .int .i64 t.fl, .int .i64 t.wi, .int .i64 t.ur, .slice t.Ao t.no t.co, .slice t.Ab t.nb t.cb] 29)).alloc (.cells #[.int .i64 u.sp, .int .i64 u.dp, .int .u32 u.sq, .int .u32 u.ak, .int .i64 u.fl, .int .i64 u.wi, .int .i64 u.ur, .slice u.Ao u.no u.co, .slice u.Ab u.nb u.cb] 29)).alloc (.cells #[.int .u32 0, .int .u32 0] 31)).alloc (.cells #[.int .i64 0, .int .i64 0, .int .u32 0, .int .u32 0, .int .i64 0, .int .i64 0, .int .i64 0, .slice none 0 0, .slice none 0 0] 29) := ⟨_, rfl⟩
  have hbW : Below w.heap.size w W := by rw [hW]; exact ((((Below.refl _ _).alloc (Nat.le_refl _) _).alloc (by simp) _).alloc (by simp; omega) _).alloc (by simp; omega) _
  have hWs : w.heap.size + 3 < W.heap.size := by rw [hW]; simp
  have B0 : BlkV W w.heap.size 29 [.int .i64 t.sp, .int .i64 t.dp, .int .u32 t.sq, .int .u32 t.ak, .int .i64 t.fl, .int .i64 t.wi, .int .i64 t.ur, .slice t.Ao t.no t.co, .slice t.Ab t.nb t.cb] := by rw [hW]; exact (((BlkV.new w _ _).alloc _).alloc _).alloc _
  have B1 : BlkV W (w.heap.size + 1) 29 [.int .i64 u.sp, .int .i64 u.dp, .int .u32 u.sq, .int .u32 u.ak, .int .i64 u.fl, .int .i64 u.wi, .int .i64 u.ur, .slice u.Ao u.no u.co, .slice u.Ab u.nb u.cb] := by rw [hW]; exact ((BlkV.new_at (w.alloc (.cells #[.int .i64 t.sp, .int .i64 t.dp, .int .u32 t.sq, .int .u32 t.ak, .int .i64 t.fl, .int .i64 t.wi, .int .i64 t.ur, .slice t.Ao t.no t.co, .slice t.Ab t.nb t.cb] 29)) _ _ (by simp)).alloc _).alloc _
  have B2 : BlkV W (w.heap.size + 1 + 1) 31 [.int .u32 0, .int .u32 0] := by rw [hW]; exact (BlkV.new_at ((w.alloc (.cells #[.int .i64 t.sp, .int .i64 t.dp, .int .u32 t.sq, .int .u32 t.ak, .int .i64 t.fl, .int .i64 t.wi, .int .i64 t.ur, .slice t.Ao t.no t.co, .slice t.Ab t.nb t.cb] 29)).alloc (.cells #[.int .i64 u.sp, .int .i64 u.dp, .int .u32 u.sq, .int .u32 u.ak, .int .i64 u.fl, .int .i64 u.wi, .int .i64 u.ur, .slice u.Ao u.no u.co, .slice u.Ab u.nb u.cb] 29)) _ _ (by simp)).alloc _
  have B3 : BlkV W (w.heap.size + 1 + 1 + 1) 29 [.int .i64 0, .int .i64 0, .int .u32 0, .int .u32 0, .int .i64 0, .int .i64 0, .int .i64 0, .slice none 0 0, .slice none 0 0] := by rw [hW]; exact BlkV.new_at (((w.alloc (.cells #[.int .i64 t.sp, .int .i64 t.dp, .int .u32 t.sq, .int .u32 t.ak, .int .i64 t.fl, .int .i64 t.wi, .int .i64 t.ur, .slice t.Ao t.no t.co, .slice t.Ab t.nb t.cb] 29)).alloc (.cells #[.int .i64 u.sp, .int .i64 u.dp, .int .u32 u.sq, .int .u32 u.ak, .int .i64 u.fl, .int .i64 u.wi, .int .i64 u.ur, .slice u.Ao u.no u.co, .slice u.Ab u.nb u.cb] 29)).alloc (.cells #[.int .u32 0, .int .u32 0] 31)) _ _ (by simp)
  have HW1 := Lib.hid (fun w => pwords_spec t w)
  have HW2 := Lib.hid (fun w => pwords_spec u w)
  have hn1 : (Go.bits .and .i64 t.fl 23 != 16) = !q1 := by rw [bne, h1]
  have hn2 : (Go.bits .and .i64 u.fl 23 != 18) = !q2 := by rw [bne, h2]
  have hn3 : (u.ak != t.sq) = !q3 := by rw [bne, h3]
  obtain ⟨x1, hx1⟩ : ∃ x, Go.bits .and .i64 t.fl 23 = x := ⟨_, rfl⟩
  obtain ⟨x2, hx2⟩ : ∃ x, Go.bits .and .i64 u.fl 23 = x := ⟨_, rfl⟩
  rw [hx1] at HW1 hn1
  rw [hx2] at HW2 hn2
  clear h1 h2 h3 hx1 hx2
  go_enter Tryd.func15, Tryd.ntmps15
  go_upto_region 1 with (fail)
  rw [← hW]
  clear hW
  go_wp2_with (refine wpList_ldB 29 _ _ (by with_reducible rfl) rfl (by rfl) B0 Tryd.underlying29 rfl (tcp_size (by rfl)) ?_)
  refine (HW1.out W).mono ?_
  rintro e w1 ⟨rfl, hb1⟩
  obtain ⟨c0, c1, c2, c3, c4, c5, c6, c7, c8⟩ := cells9' (B1.below hb1)
  have B0a := B0.below hb1
  have B1a := B1.below hb1
  have B2a := B2.below hb1
  have B3a := B3.below hb1
  have hbw1 := bel_then hbW hb1
  have hs1 := hb1.size
  clear B0 B1 B2 B3 hbW hb1
  cases q1 with
  | false =>
    clear c0 c1 c2 c3 c4 c5 c6 c7 c8
    go_wp2_with (first | (refine wpList_stB 31 _ _ (by with_reducible rfl) rfl (by rfl) _ (by rfl) B2a (by rfl) (shift_size (by rfl)) (by rfl) ?_; intro wN BN hN; have B3n := B3a.only hN (by omega)) | (refine wpList_stB 29 _ _ (by with_reducible rfl) rfl (by rfl) _ (by rfl) B3n (by rfl) (tcp_size (by rfl)) (by rfl) ?_; intro wM BM hM))
    have BN' := BN.only hM (by omega)
    have r0 := BN'.cell (i := 0) rfl
    have r1 := BN'.cell (i := 1) rfl
    obtain ⟨t0, t1, t2, t3, t4, t5, t6, t7, t8⟩ := cells9' BM
    exact bodyPost_ret (v := .tuple #[.agg #[.int .u32 0, .int .u32 0], .agg #[.int .i64 0, .int .i64 0, .int .u32 0, .int .u32 0, .int .i64 0, .int .i64 0, .int .i64 0, .slice none 0 0, .slice none 0 0], .int .i64 14]) (by simp [results, Tryd.results15, go_sem, r0, r1, t0, t1, t2, t3, t4, t5, t6, t7, t8]) rfl ⟨rfl, hM.bel (by omega) (hN.bel (by omega) hbw1)⟩
  | true =>
    go_wp2_with fail
    refine (HW2.out w1).mono ?_
    rintro e w2 ⟨rfl, hb2⟩
    have B0 := B0a.below hb2
    have B1 := B1a.below hb2
    have B2 := B2a.below hb2
    have B3 := B3a.below hb2
    have hbw2 := bel_then hbw1 hb2
    have hs2 := hb2.size
    clear B0a B1a B2a B3a hbw1 hb2 HW1 HW2 c0 c1 c2 c3 c4 c5 c6 c7 c8
    have d2 := B0.cell (i := 2) rfl
    have e3 := B1.cell (i := 3) rfl
    cases q2 with
    | false =>
      go_wp2_with (first | (refine wpList_stB 31 _ _ (by with_reducible rfl) rfl (by rfl) _ (by rfl) B2 (by rfl) (shift_size (by rfl)) (by rfl) ?_; intro wN BN hN; have B3n := B3.only hN (by omega)) | (refine wpList_stB 29 _ _ (by with_reducible rfl) rfl (by rfl) _ (by rfl) B3n (by rfl) (tcp_size (by rfl)) (by rfl) ?_; intro wM BM hM))
      have BN' := BN.only hM (by omega)
      have r0 := BN'.cell (i := 0) rfl
      have r1 := BN'.cell (i := 1) rfl
      obtain ⟨t0, t1, t2, t3, t4, t5, t6, t7, t8⟩ := cells9' BM
      exact bodyPost_ret (v := .tuple #[.agg #[.int .u32 0, .int .u32 0], .agg #[.int .i64 0, .int .i64 0, .int .u32 0, .int .u32 0, .int .i64 0, .int .i64 0, .int .i64 0, .slice none 0 0, .slice none 0 0], .int .i64 14]) (by simp [results, Tryd.results15, go_sem, r0, r1, t0, t1, t2, t3, t4, t5, t6, t7, t8]) rfl ⟨rfl, hM.bel (by omega) (hN.bel (by omega) hbw2)⟩
    | true =>
      obtain rfl : q3 = false := by simpa using hq
      go_wp2_with (first | (refine wpList_stB 31 _ _ (by with_reducible rfl) rfl (by rfl) _ (by rfl) B2 (by rfl) (shift_size (by rfl)) (by rfl) ?_; intro wN BN hN; have B3n := B3.only hN (by omega)) | (refine wpList_stB 29 _ _ (by with_reducible rfl) rfl (by rfl) _ (by rfl) B3n (by rfl) (tcp_size (by rfl)) (by rfl) ?_; intro wM BM hM))
      have BN' := BN.only hM (by omega)
      have r0 := BN'.cell (i := 0) rfl
      have r1 := BN'.cell (i := 1) rfl
      obtain ⟨t0, t1, t2, t3, t4, t5, t6, t7, t8⟩ := cells9' BM
      exact bodyPost_ret (v := .tuple #[.agg #[.int .u32 0, .int .u32 0], .agg #[.int .i64 0, .int .i64 0, .int .u32 0, .int .u32 0, .int .i64 0, .int .i64 0, .int .i64 0, .slice none 0 0, .slice none 0 0], .int .i64 14]) (by simp [results, Tryd.results15, go_sem, r0, r1, t0, t1, t2, t3, t4, t5, t6, t7, t8]) rfl ⟨rfl, hM.bel (by omega) (hN.bel (by omega) hbw2)⟩
end Go.Proofs.YtpidpbjbgjkaaaaDoor
namespace Go.Proofs.YtpidpbjbgjkaaaaDoor
open Go.RowKit
set_option maxRecDepth 8000
set_option linter.unusedVariables false
set_option linter.unusedSimpArgs false
set_option maxHeartbeats 4000000 in
theorem pknown_no (A : Option Addr) (n c : Nat) (x : Cook.Tup) (t : Tcp.T) (ep : Int) (w : World) (h : (Go.bits .and .i64 t.fl 23 == 16) = false) :
    Calls Tryd.prog 10 #[.slice A n c, .agg #[.int .i64 x.proto, .int .u32 x.src, .int .i64 x.sport, .int .u32 x.dst, .int .i64 x.dport], .agg #[.int .i64 t.sp, .int .i64 t.dp, .int .u32 t.sq, .int .u32 t.ak, .int .i64 t.fl, .int .i64 t.wi, .int .i64 t.ur, .slice t.Ao t.no t.co, .slice t.Ab t.nb t.cb], .int .i64 ep] w fun e w' => e = .returned (.tuple #[.int .i64 0, .bool false]) ∧ Below w.heap.size w w' := by
  obtain ⟨W, hW⟩ : ∃ W, W = (w.alloc (.cells #[.int .i64 x.proto, .int .u32 x.src, .int .i64 x.sport, .int .u32 x.dst, .int .i64 x.dport] 25)).alloc (.cells #[.int .i64 t.sp, .int .i64 t.dp, .int .u32 t.sq, .int .u32 t.ak, .int .i64 t.fl, .int .i64 t.wi, .int .i64 t.ur, .slice t.Ao t.no t.co, .slice t.Ab t.nb t.cb] 29) := ⟨_, rfl⟩
  have hbW : Below w.heap.size w W := by rw [hW]; exact ((Below.refl _ _).alloc (Nat.le_refl _) _).alloc (by simp) _
  have B0 : BlkV W (w.heap.size + 1) 29 [.int .i64 t.sp, .int .i64 t.dp, .int .u32 t.sq, .int .u32 t.ak, .int .i64 t.fl, .int .i64 t.wi, .int .i64 t.ur, .slice t.Ao t.no t.co, .slice t.Ab t.nb t.cb] := by rw [hW]; exact BlkV.new_at (w.alloc (.cells #[.int .i64 x.proto, .int .u32 x.src, .int .i64 x.sport, .int .u32 x.dst, .int .i64 x.dport] 25)) _ _ (by simp)
  have HW1 := Lib.hid (fun w => pwords_spec t w)
  have hne : (Go.bits .and .i64 t.fl 23 != 16) = true := by rw [bne, h]; rfl
  obtain ⟨y, hy⟩ : ∃ y, Go.bits .and .i64 t.fl 23 = y := ⟨_, rfl⟩
  rw [hy] at HW1 hne
  go_enter Tryd.func10, Tryd.ntmps10
  go_upto_region 1 with (fail)
  rw [← hW]
  clear hW
  go_wp2_with (refine wpList_ldB 29 _ _ (by with_reducible rfl) rfl (by rfl) B0 Tryd.underlying29 rfl (tcp_size (by rfl)) ?_)
  refine (HW1.out W).mono ?_
  rintro e w1 ⟨rfl, hb1⟩
  have hbw1 := bel_then hbW hb1
  go_wp2_with fail
  go_ret2
  exact ⟨rfl, hbw1⟩
set_option maxHeartbeats 8000000 in
theorem pknown_ok (A : Option Addr) (n c : Nat) (rs : List Mac.Key) (x : Cook.Tup) (hx : x.wf) (t : Tcp.T) (ep : Int) (w : World) (hT : Tabs w) (hr : Mac.Ring w A n rs) (hbig : n ≤ 9223372036854775807) (h : (Go.bits .and .i64 t.fl 23 == 16) = true) :
    Calls Tryd.prog 10 #[.slice A n c, .agg #[.int .i64 x.proto, .int .u32 x.src, .int .i64 x.sport, .int .u32 x.dst, .int .i64 x.dport], .agg #[.int .i64 t.sp, .int .i64 t.dp, .int .u32 t.sq, .int .u32 t.ak, .int .i64 t.fl, .int .i64 t.wi, .int .i64 t.ur, .slice t.Ao t.no t.co, .slice t.Ab t.nb t.cb], .int .i64 ep] w fun e w' => e = .returned (.tuple #[.int .i64 (Cook.checkN (rs.map (·.l)) x (Seq.step t.sq (-1)) ep (Seq.step t.ak (-1))), .bool (Cook.checkB (rs.map (·.l)) x (Seq.step t.sq (-1)) ep (Seq.step t.ak (-1)))]) ∧ Below w.heap.size w w' := by
  obtain ⟨W, hW⟩ : ∃ W, W = (w.alloc (.cells #[.int .i64 x.proto, .int .u32 x.src, .int .i64 x.sport, .int .u32 x.dst, .int .i64 x.dport] 25)).alloc (.cells #[.int .i64 t.sp, .int .i64 t.dp, .int .u32 t.sq, .int .u32 t.ak, .int .i64 t.fl, .int .i64 t.wi, .int .i64 t.ur, .slice t.Ao t.no t.co, .slice t.Ab t.nb t.cb] 29) := ⟨_, rfl⟩
  have hbW : Below w.heap.size w W := by rw [hW]; exact ((Below.refl _ _).alloc (Nat.le_refl _) _).alloc (by simp) _
  have B1 : BlkV W w.heap.size 25 [.int .i64 x.proto, .int .u32 x.src, .int .i64 x.sport, .int .u32 x.dst, .int .i64 x.dport] := by rw [hW]; exact (BlkV.new w _ _).alloc _
  have B0 : BlkV W (w.heap.size + 1) 29 [.int .i64 t.sp, .int .i64 t.dp, .int .u32 t.sq, .int .u32 t.ak, .int .i64 t.fl, .int .i64 t.wi, .int .i64 t.ur, .slice t.Ao t.no t.co, .slice t.Ab t.nb t.cb] := by rw [hW]; exact BlkV.new_at (w.alloc (.cells #[.int .i64 x.proto, .int .u32 x.src, .int .i64 x.sport, .int .u32 x.dst, .int .i64 x.dport] 25)) _ _ (by simp)
  have HW1 := Lib.hid (fun w => pwords_spec t w)
  have hne : (Go.bits .and .i64 t.fl 23 != 16) = false := by rw [bne, h]; rfl
  obtain ⟨y, hy⟩ : ∃ y, Go.bits .and .i64 t.fl 23 = y := ⟨_, rfl⟩
  rw [hy] at HW1 hne
  have HS1 : Hid (∀ w', Calls Tryd.prog 21 #[.int .u32 t.sq, .int .i64 (-1)] w' fun e w'' => e = .returned (.int .u32 (Seq.step t.sq (-1))) ∧ Below w'.heap.size w' w'') := Lib.hid fun w' => (seq_step t.sq (-1) w').mono fun _ _ ⟨a, b⟩ => ⟨a, by rw [← b]; exact Below.refl _ _⟩
  have HS2 : Hid (∀ w', Calls Tryd.prog 21 #[.int .u32 t.ak, .int .i64 (-1)] w' fun e w'' => e = .returned (.int .u32 (Seq.step t.ak (-1))) ∧ Below w'.heap.size w' w'') := Lib.hid fun w' => (seq_step t.ak (-1) w').mono fun _ _ ⟨a, b⟩ => ⟨a, by rw [← b]; exact Below.refl _ _⟩
  have HC : Hid (∀ w', Below w.heap.size w w' → Calls Tryd.prog 30 #[.slice A n c, .agg #[.int .i64 x.proto, .int .u32 x.src, .int .i64 x.sport, .int .u32 x.dst, .int .i64 x.dport], .int .u32 (Seq.step t.sq (-1)), .int .i64 ep, .int .u32 (Seq.step t.ak (-1))] w' fun e w'' => e = .returned (.tuple #[.int .i64 (Cook.checkN (rs.map (·.l)) x (Seq.step t.sq (-1)) ep (Seq.step t.ak (-1))), .bool (Cook.checkB (rs.map (·.l)) x (Seq.step t.sq (-1)) ep (Seq.step t.ak (-1)))]) ∧ Below w'.heap.size w' w'') :=
    Lib.hid fun w' hb => ccheck_spec A n c rs x hx _ ep _ (by simp only [Seq.step]; omega) (by simp only [Seq.step]; omega) (by simp only [Seq.step]; omega) (by simp only [Seq.step]; omega) w' (hT.below hb) (hr.below hb) hbig
  go_enter Tryd.func10, Tryd.ntmps10
  go_upto_region 1 with (fail)
  rw [← hW]
  clear hW
  go_wp2_with (refine wpList_ldB 29 _ _ (by with_reducible rfl) rfl (by rfl) B0 Tryd.underlying29 rfl (tcp_size (by rfl)) ?_)
  refine (HW1.out W).mono ?_
  rintro e w1 ⟨rfl, hb1⟩
  have hbw1 := bel_then hbW hb1
  have B0a := B0.below hb1
  have B1a := B1.below hb1
  have a0 : ∀ p : BelBy w1, p.v.cell? ⟨w.heap.size, 0, none⟩ = some (.int .i64 x.proto) := fun p => (B1a.below p.h).cell rfl
  have a1 : ∀ p : BelBy w1, p.v.cell? ⟨w.heap.size, 1, none⟩ = some (.int .u32 x.src) := fun p => (B1a.below p.h).cell rfl
  have a2 : ∀ p : BelBy w1, p.v.cell? ⟨w.heap.size, 2, none⟩ = some (.int .i64 x.sport) := fun p => (B1a.below p.h).cell rfl
  have a3 : ∀ p : BelBy w1, p.v.cell? ⟨w.heap.size, 3, none⟩ = some (.int .u32 x.dst) := fun p => (B1a.below p.h).cell rfl
  have a4 : ∀ p : BelBy w1, p.v.cell? ⟨w.heap.size, 4, none⟩ = some (.int .i64 x.dport) := fun p => (B1a.below p.h).cell rfl
  have b2 : ∀ p : BelBy w1, p.v.cell? ⟨w.heap.size + 1, 2, none⟩ = some (.int .u32 t.sq) := fun p => (B0a.below p.h).cell rfl
  have b3 : ∀ p : BelBy w1, p.v.cell? ⟨w.heap.size + 1, 3, none⟩ = some (.int .u32 t.ak) := fun p => (B0a.below p.h).cell rfl
  clear B0 B1 B0a B1a HW1 hne hb1
  go_upto_region 3 with (fail)
  refine wp_region_quiet_bel (by kernel_rfl) (by kernel_rfl) ?_
  repeat (go_big_quiet_step (with_reducible first | exact calls_bel (HS1.out _) | exact calls_bel (HS2.out _) | exact calls_bel (HC.out _ (bel_then hbw1 (BelBy.h _)))))
  refine wpQuiet_nil ?_
  intro _ hw'
  obtain ⟨⟨wq, hbq⟩, hw''⟩ := hw'
  have hw3 : _ = wq := hw''
  clear hw''
  subst hw3
  go_wp2_with fail
  go_ret2
  exact ⟨rfl, bel_then hbw1 hbq⟩
end Go.Proofs.YtpidpbjbgjkaaaaDoor
namespace Go.Proofs.YtpidpbjbgjkaaaaDoor
open Go.RowKit
set_option linter.unusedVariables false
namespace Cook
/-- a cookie of a key of the ring is known in its epoch and in the next one -/
theorem knows {ls : List (List Int)} {t : Tup} {sq ep : Int} {pl : Nat} {l : List Int} (h2 : ls.length ≤ 2) (hmem : l ∈ ls) (hp : pl ≤ 7) (he : 0 ≤ ep) : (may t ep = true → checkB ls t sq ep (one l t sq ep pl) = true ∧ checkN ls t sq ep (one l t sq ep pl) = sizeAt pl) ∧ (may t (ep + 1) = true → checkB ls t sq (ep + 1) (one l t sq ep pl) = true ∧ checkN ls t sq (ep + 1) (one l t sq ep pl) = sizeAt pl) := by
  refine ⟨fun hm => found hm h2 hmem hp ?_, fun hm => found hm h2 hmem hp ?_⟩
  · unfold kA; simp
  · unfold kA
    rw [show ep + 1 - 1 = ep by omega, decide_eq_true (show 0 < ep + 1 by omega)]
    simp
def fixT : Tup := ⟨6, 1, 2, 3, 4⟩
theorem fix : (may fixT 33 = true) ∧ (place 1460 = 7) ∧ (one [107] fixT 5 33 7 / 16777216 = 15) ∧ checkB [[107]] fixT 5 34 (one [107] fixT 5 33 7) = true ∧ checkN [[107]] fixT 5 34 (one [107] fixT 5 33 7) = 1460 := by
  have h0 : may fixT 33 = true := by decide
  have h1 : may fixT (33 + 1) = true := by decide
  have hk := (knows (ls := [[107]]) (t := fixT) (sq := 5) (ep := 33) (pl := 7) (l := [107]) (by simp) (by simp) (by omega) (by omega)).2 h1
  have hb := bits24 [107] (text fixT 5 33 7)
  exact ⟨h0, by decide, by unfold one; omega, hk.1, hk.2⟩
end Cook
theorem cook_k : isB [107] := by
  intro x hx
  simp only [List.mem_cons, List.not_mem_nil, or_false] at hx
  omega
theorem rd_mark1 (w : World) (T : TypeId) (l : List Int) (n : Nat) (fr : Nat × Nat) (hn : n = l.length) : Rd (w.alloc (.cells (bs l).toArray T fr)) 1 (some ⟨w.heap.size, 0, none⟩) n (bs l) := by
  subst hn
  refine ⟨by rw [bs_len, Nat.mul_one], fun _ => ⟨_, 0, rfl, by simp, fun j u hu => ?_⟩⟩
  rw [cell_of_row _ _ _ _ T fr (heap_alloc_new w _)]
  simpa using hu
end Go.Proofs.YtpidpbjbgjkaaaaDoor
