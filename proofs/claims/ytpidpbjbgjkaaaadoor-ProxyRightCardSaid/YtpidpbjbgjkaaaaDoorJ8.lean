/- The walk of proxy.Learn where it refuses. The walk of casemateref24.Learn. -/
import Derived.Test.YtpidpbjbgjkaaaaDoorJ5
namespace Go.Proofs.YtpidpbjbgjkaaaaDoor
open Go.RowKit
set_option maxRecDepth 8000
set_option linter.unusedVariables false
set_option linter.unusedSimpArgs false
def LearnNo (w : World) (e : Ending) (w' : World) : Prop :=
  e = .returned (.tuple #[.agg #[.int .u32 0, .int .u32 0], .agg #[.int .i64 0, .int .i64 0, .int .u32 0, .int .u32 0, .int .i64 0, .int .i64 0, .int .i64 0, .slice none 0 0, .slice none 0 0], .int .i64 14]) ∧ Below w.heap.size w w'
set_option maxHeartbeats 4000000 in
theorem plearn_no (t u : Tcp.T) (st : Int) (w : World) (q1 q2 q3 : Bool) (h1 : (Go.bits .and .i64 t.fl 23 == 16) = q1) (h2 : (Go.bits .and .i64 u.fl 23 == 18) = q2) (h3 : (u.ak == t.sq) = q3) (hq : (q1 && q2 && q3) = false) :
    Calls Tryd.prog 15 #[.agg #[.int .i64 t.sp, .int .i64 t.dp, .int .u32 t.sq, .int .u32 t.ak, .int .i64 t.fl, .int .i64 t.wi, .int .i64 t.ur, .slice t.Ao t.no t.co, .slice t.Ab t.nb t.cb], .agg #[.int .i64 u.sp, .int .i64 u.dp, .int .u32 u.sq, .int .u32 u.ak, .int .i64 u.fl, .int .i64 u.wi, .int .i64 u.ur, .slice u.Ao u.no u.co, .slice u.Ab u.nb u.cb], .int .u32 st] w (LearnNo w) := by
  obtain ⟨W, hW⟩ : ∃ W, W = (((w.alloc (.cells #[.int .i64 t.sp, .int .i64 t.dp, .int .u32 t.sq, .int .u32 t.ak, .int .i64 t.fl, .int .i64 t.wi, .int .i64 t.ur, .slice t.Ao t.no t.co, .slice t.Ab t.nb t.cb] 29)).alloc (.cells #[.int .i64 u.sp, .int .i64 u.dp, .int .u32 u.sq, .int .u32 u.ak, .int .i64 u.fl, .int .i64 u.wi, .int .i64 u.ur, .slice u.Ao u.no u.co, .slice u.Ab u.nb u.cb] 29)).alloc (.cells #[.int .u32 0, .int .u32 0] 31)).alloc (.cells #[.int .i64 0, .int .i64 0, .int .u32 0, .int .u32 0, .int .i64 0, .int .i64 0, .int .i64 0, .slice none 0 0, .slice none 0 0] 29) := ⟨_, rfl⟩
  have hbW : Below w.heap.size w W := by rw [hW]; exact ((((Below.refl _ _).alloc (Nat.le_refl _) _).alloc (by simp) _).alloc (by simp; omega) _).alloc (by simp; omega) _
  have hWs : w.heap.size + 3 < W.heap.size := by rw [hW]; simp
  have B0 : BlkV W w.heap.size 29 [.int .i64 t.sp, .int .i64 t.dp, .int .u32 t.sq, .int .u32 t.ak, .int .i64 t.fl, .int .i64 t.wi, .int .i64 t.ur, .slice t.Ao t.no t.co, .slice t.Ab t.nb t.cb] := by rw [hW]; exact (((BlkV.new w _ _).alloc _).alloc _).alloc _
  have B1 : BlkV W (w.heap.size + 1) 29 [.int .i64 u.sp, .int .i64 u.dp, .int .u32 u.sq, .int .u32 u.ak, .int .i64 u.fl, .int .i64 u.wi, .int .i64 u.ur, .slice u.Ao u.no u.co, .slice u.Ab u.nb u.cb] := by rw [hW]; exact ((BlkV.new_at (w.alloc (.cells #[.int .i64 t.sp, .int .i64 t.dp, .int .u32 t.sq, .int .u32 t.ak, .int .i64 t.fl, .int .i64 t.wi, .int .i64 t.ur, .slice t.Ao t.no t.co, .slice t.Ab t.nb t.cb] 29)) _ _ (by simp)).alloc _).alloc _
  have B2 : BlkV W (w.heap.size + 1 + 1) 31 [.int .u32 0, .int .u32 0] := by rw [hW]; exact (BlkV.new_at ((w.alloc (.cells #[.int .i64 t.sp, .int .i64 t.dp, .int .u32 t.sq, .int .u32 t.ak, .int .i64 t.fl, .int .i64 t.wi, .int .i64 t.ur, .slice t.Ao t.no t.co, .slice t.Ab t.nb t.cb] 29)).alloc (.cells #[.int .i64 u.sp, .int .i64 u.dp, .int .u32 u.sq, .int .u32 u.ak, .int .i64 u.fl, .int .i64 u.wi, .int .i64 u.ur, .slice u.Ao u.no u.co, .slice u.Ab u.nb u.cb] 29)) _ _ (by simp)).alloc _
  have B3 : BlkV W (w.heap.size + 1 + 1 + 1) 29 [.int .i64 0, .int .i64 0, .int .u32 0, .int .u32 0, .int .i64 0, .int .i64 0, .int .i64 0, .slice none 0 0, .slice none 0 0] := by rw [hW]; exact BlkV.new_at (((w.alloc (.cells #[.int .i64 t.sp, .int .i64 t.dp, .int .u32 t.sq, .int .u32 t.ak, .int .i64 t.fl, .int .i64 t.wi, .int .i64 t.ur, .slice t.Ao t.no t.co, .slice t.Ab t.nb t.cb] 29)).alloc (.cells #[.int .i64 u.sp, .int .i64 u.dp, .int .u32 u.sq, .int .u32 u.ak, .int .i64 u.fl, .int .i64 u.wi, .int .i64 u.ur, .slice u.Ao u.no u.co, .slice u.Ab u.nb u.cb] 29)).alloc (.cells #[.int .u32 0, .int .u32 0] 31)) _ _ (by simp)
  have HW1 := Lib.hid (fun w => pwords_spec t w)
  have HW2 := Lib.hid (fun w => pwords_spec u w)
  have hn1 : (Go.bits .and .i64 t.fl 23 != 16) = !q1 := by rw [bne, h1]
  have hn2 : (Go.bits .and .i64 u.fl 23 != 18) = !q2 := by rw [bne, h2]
  have hn3 : (u.ak != t.sq) = !q3 := by rw [bne, h3]
  obtain ⟨x1, hx1⟩ : ∃ x, Go.bits .and .i64 t.fl 23 = x := ⟨_, rfl⟩
  obtain ⟨x2, hx2⟩ : ∃ x, Go.bits .and .i64 u.fl 23 = x := ⟨_, rfl⟩
  rw [hx1] at HW1 hn1
  rw [hx2] at HW2 hn2
  clear h1 h2 h3 hx1 hx2
  go_enter Tryd.func15, Tryd.ntmps15
  go_upto_region 1 with (fail)
  rw [← hW]
  clear hW
  go_wp2_with (refine wpList_ldB 29 _ _ (by with_reducible rfl) rfl (by rfl) B0 Tryd.underlying29 rfl (tcp_size (by rfl)) ?_)
  refine (HW1.out W).mono ?_
  rintro e w1 ⟨rfl, hb1⟩
  obtain ⟨c0, c1, c2, c3, c4, c5, c6, c7, c8⟩ := cells9' (B1.below hb1)
  have B0a := B0.below hb1
  have B1a := B1.below hb1
  have B2a := B2.below hb1
  have B3a := B3.below hb1
  have hbw1 := bel_then hbW hb1
  have hs1 := hb1.size
  clear B0 B1 B2 B3 hbW hb1
  cases q1 with
  | false =>
    clear c0 c1 c2 c3 c4 c5 c6 c7 c8
    go_wp2_with (first | (refine wpList_stB 31 _ _ (by with_reducible rfl) rfl (by rfl) _ (by rfl) B2a (by rfl) (shift_size (by rfl)) (by rfl) ?_; intro wN BN hN; have B3n := B3a.only hN (by omega)) | (refine wpList_stB 29 _ _ (by with_reducible rfl) rfl (by rfl) _ (by rfl) B3n (by rfl) (tcp_size (by rfl)) (by rfl) ?_; intro wM BM hM))
    have BN' := BN.only hM (by omega)
    have r0 := BN'.cell (i := 0) rfl
    have r1 := BN'.cell (i := 1) rfl
    obtain ⟨t0, t1, t2, t3, t4, t5, t6, t7, t8⟩ := cells9' BM
    exact bodyPost_ret (v := .tuple #[.agg #[.int .u32 0, .int .u32 0], .agg #[.int .i64 0, .int .i64 0, .int .u32 0, .int .u32 0, .int .i64 0, .int .i64 0, .int .i64 0, .slice none 0 0, .slice none 0 0], .int .i64 14]) (by simp [results, Tryd.results15, go_sem, r0, r1, t0, t1, t2, t3, t4, t5, t6, t7, t8]) rfl ⟨rfl, hM.bel (by omega) (hN.bel (by omega) hbw1)⟩
  | true =>
    go_wp2_with fail
    refine (HW2.out w1).mono ?_
    rintro e w2 ⟨rfl, hb2⟩
    have B0 := B0a.below hb2
    have B1 := B1a.below hb2
    have B2 := B2a.below hb2
    have B3 := B3a.below hb2
    have hbw2 := bel_then hbw1 hb2
    have hs2 := hb2.size
    clear B0a B1a B2a B3a hbw1 hb2 HW1 HW2 c0 c1 c2 c3 c4 c5 c6 c7 c8
    have d2 := B0.cell (i := 2) rfl
    have e3 := B1.cell (i := 3) rfl
    cases q2 with
    | false =>
      go_wp2_with (first | (refine wpList_stB 31 _ _ (by with_reducible rfl) rfl (by rfl) _ (by rfl) B2 (by rfl) (shift_size (by rfl)) (by rfl) ?_; intro wN BN hN; have B3n := B3.only hN (by omega)) | (refine wpList_stB 29 _ _ (by with_reducible rfl) rfl (by rfl) _ (by rfl) B3n (by rfl) (tcp_size (by rfl)) (by rfl) ?_; intro wM BM hM))
      have BN' := BN.only hM (by omega)
      have r0 := BN'.cell (i := 0) rfl
      have r1 := BN'.cell (i := 1) rfl
      obtain ⟨t0, t1, t2, t3, t4, t5, t6, t7, t8⟩ := cells9' BM
      exact bodyPost_ret (v := .tuple #[.agg #[.int .u32 0, .int .u32 0], .agg #[.int .i64 0, .int .i64 0, .int .u32 0, .int .u32 0, .int .i64 0, .int .i64 0, .int .i64 0, .slice none 0 0, .slice none 0 0], .int .i64 14]) (by simp [results, Tryd.results15, go_sem, r0, r1, t0, t1, t2, t3, t4, t5, t6, t7, t8]) rfl ⟨rfl, hM.bel (by omega) (hN.bel (by omega) hbw2)⟩
    | true =>
      obtain rfl : q3 = false := by simpa using hq
      go_wp2_with (first | (refine wpList_stB 31 _ _ (by with_reducible rfl) rfl (by rfl) _ (by rfl) B2 (by rfl) (shift_size (by rfl)) (by rfl) ?_; intro wN BN hN; have B3n := B3.only hN (by omega)) | (refine wpList_stB 29 _ _ (by with_reducible rfl) rfl (by rfl) _ (by rfl) B3n (by rfl) (tcp_size (by rfl)) (by rfl) ?_; intro wM BM hM))
      have BN' := BN.only hM (by omega)
      have r0 := BN'.cell (i := 0) rfl
      have r1 := BN'.cell (i := 1) rfl
      obtain ⟨t0, t1, t2, t3, t4, t5, t6, t7, t8⟩ := cells9' BM
      exact bodyPost_ret (v := .tuple #[.agg #[.int .u32 0, .int .u32 0], .agg #[.int .i64 0, .int .i64 0, .int .u32 0, .int .u32 0, .int .i64 0, .int .i64 0, .int .i64 0, .slice none 0 0, .slice none 0 0], .int .i64 14]) (by simp [results, Tryd.results15, go_sem, r0, r1, t0, t1, t2, t3, t4, t5, t6, t7, t8]) rfl ⟨rfl, hM.bel (by omega) (hN.bel (by omega) hbw2)⟩
end Go.Proofs.YtpidpbjbgjkaaaaDoor
namespace Go.Proofs.YtpidpbjbgjkaaaaDoor
open Go.RowKit
set_option maxRecDepth 8000
set_option linter.unusedVariables false
set_option linter.unusedSimpArgs false
set_option maxHeartbeats 4000000 in
theorem rlearn_no (t u : Tcp.T) (st : Int) (w : World) (q1 q2 q3 : Bool) (h1 : (Go.bits .and .i64 t.fl 23 == 16) = q1) (h2 : (Go.bits .and .i64 u.fl 23 == 18) = q2) (h3 : (u.ak == t.sq) = q3) (hq : (q1 && q2 && q3) = false) :
    Calls Tryd.prog 16 #[.agg #[.int .i64 t.sp, .int .i64 t.dp, .int .u32 t.sq, .int .u32 t.ak, .int .i64 t.fl, .int .i64 t.wi, .int .i64 t.ur, .slice t.Ao t.no t.co, .slice t.Ab t.nb t.cb], .agg #[.int .i64 u.sp, .int .i64 u.dp, .int .u32 u.sq, .int .u32 u.ak, .int .i64 u.fl, .int .i64 u.wi, .int .i64 u.ur, .slice u.Ao u.no u.co, .slice u.Ab u.nb u.cb], .int .u32 st] w (LearnNo w) := by
  obtain ⟨W, hW⟩ : ∃ W, W = (((w.alloc (.cells #[.int .i64 t.sp, .int .i64 t.dp, .int .u32 t.sq, .int .u32 t.ak, .int .i64 t.fl, .int .i64 t.wi, .int .i64 t.ur, .slice t.Ao t.no t.co, .slice t.Ab t.nb t.cb] 29)).alloc (.cells #[.int .i64 u.sp, .int .i64 u.dp, .int .u32 u.sq, .int .u32 u.ak, .int .i64 u.fl, .int .i64 u.wi, .int .i64 u.ur, .slice u.Ao u.no u.co, .slice u.Ab u.nb u.cb] 29)).alloc (.cells #[.int .u32 0, .int .u32 0] 31)).alloc (.cells #[.int .i64 0, .int .i64 0, .int .u32 0, .int .u32 0, .int .i64 0, .int .i64 0, .int .i64 0, .slice none 0 0, .slice none 0 0] 29) := ⟨_, rfl⟩
  have hbW : Below w.heap.size w W := by rw [hW]; exact ((((Below.refl _ _).alloc (Nat.le_refl _) _).alloc (by simp) _).alloc (by simp; omega) _).alloc (by simp; omega) _
  have hWs : w.heap.size + 3 < W.heap.size := by rw [hW]; simp
  have B0 : BlkV W w.heap.size 29 [.int .i64 t.sp, .int .i64 t.dp, .int .u32 t.sq, .int .u32 t.ak, .int .i64 t.fl, .int .i64 t.wi, .int .i64 t.ur, .slice t.Ao t.no t.co, .slice t.Ab t.nb t.cb] := by rw [hW]; exact (((BlkV.new w _ _).alloc _).alloc _).alloc _
  have B1 : BlkV W (w.heap.size + 1) 29 [.int .i64 u.sp, .int .i64 u.dp, .int .u32 u.sq, .int .u32 u.ak, .int .i64 u.fl, .int .i64 u.wi, .int .i64 u.ur, .slice u.Ao u.no u.co, .slice u.Ab u.nb u.cb] := by rw [hW]; exact ((BlkV.new_at (w.alloc (.cells #[.int .i64 t.sp, .int .i64 t.dp, .int .u32 t.sq, .int .u32 t.ak, .int .i64 t.fl, .int .i64 t.wi, .int .i64 t.ur, .slice t.Ao t.no t.co, .slice t.Ab t.nb t.cb] 29)) _ _ (by simp)).alloc _).alloc _
  have B2 : BlkV W (w.heap.size + 1 + 1) 31 [.int .u32 0, .int .u32 0] := by rw [hW]; exact (BlkV.new_at ((w.alloc (.cells #[.int .i64 t.sp, .int .i64 t.dp, .int .u32 t.sq, .int .u32 t.ak, .int .i64 t.fl, .int .i64 t.wi, .int .i64 t.ur, .slice t.Ao t.no t.co, .slice t.Ab t.nb t.cb] 29)).alloc (.cells #[.int .i64 u.sp, .int .i64 u.dp, .int .u32 u.sq, .int .u32 u.ak, .int .i64 u.fl, .int .i64 u.wi, .int .i64 u.ur, .slice u.Ao u.no u.co, .slice u.Ab u.nb u.cb] 29)) _ _ (by simp)).alloc _
  have B3 : BlkV W (w.heap.size + 1 + 1 + 1) 29 [.int .i64 0, .int .i64 0, .int .u32 0, .int .u32 0, .int .i64 0, .int .i64 0, .int .i64 0, .slice none 0 0, .slice none 0 0] := by rw [hW]; exact BlkV.new_at (((w.alloc (.cells #[.int .i64 t.sp, .int .i64 t.dp, .int .u32 t.sq, .int .u32 t.ak, .int .i64 t.fl, .int .i64 t.wi, .int .i64 t.ur, .slice t.Ao t.no t.co, .slice t.Ab t.nb t.cb] 29)).alloc (.cells #[.int .i64 u.sp, .int .i64 u.dp, .int .u32 u.sq, .int .u32 u.ak, .int .i64 u.fl, .int .i64 u.wi, .int .i64 u.ur, .slice u.Ao u.no u.co, .slice u.Ab u.nb u.cb] 29)).alloc (.cells #[.int .u32 0, .int .u32 0] 31)) _ _ (by simp)
  have HW1 := Lib.hid (fun w => rflags_spec t false true w)
  have HW2 := Lib.hid (fun w => rflags_spec u true true w)
  rw [show Prox.wd false true = 16 from rfl, h1] at HW1
  rw [show Prox.wd true true = 18 from rfl, h2] at HW2
  have hn3 : (u.ak != t.sq) = !q3 := by rw [bne, h3]
  clear h1 h2 h3
  go_enter Tryd.func16, Tryd.ntmps16
  go_upto_region 1 with (fail)
  rw [← hW]
  clear hW
  go_wp2_with (refine wpList_ldB 29 _ _ (by with_reducible rfl) rfl (by rfl) B0 Tryd.underlying29 rfl (tcp_size (by rfl)) ?_)
  refine (HW1.out W).mono ?_
  rintro e w1 ⟨rfl, hb1⟩
  obtain ⟨c0, c1, c2, c3, c4, c5, c6, c7, c8⟩ := cells9' (B1.below hb1)
  have B0a := B0.below hb1
  have B1a := B1.below hb1
  have B2a := B2.below hb1
  have B3a := B3.below hb1
  have hbw1 := bel_then hbW hb1
  have hs1 := hb1.size
  clear B0 B1 B2 B3 hbW hb1
  cases q1 with
  | false =>
    clear c0 c1 c2 c3 c4 c5 c6 c7 c8
    go_wp2_with (first | (refine wpList_stB 31 _ _ (by with_reducible rfl) rfl (by rfl) _ (by rfl) B2a (by rfl) (shift_size (by rfl)) (by rfl) ?_; intro wN BN hN; have B3n := B3a.only hN (by omega)) | (refine wpList_stB 29 _ _ (by with_reducible rfl) rfl (by rfl) _ (by rfl) B3n (by rfl) (tcp_size (by rfl)) (by rfl) ?_; intro wM BM hM))
    have BN' := BN.only hM (by omega)
    have r0 := BN'.cell (i := 0) rfl
    have r1 := BN'.cell (i := 1) rfl
    obtain ⟨t0, t1, t2, t3, t4, t5, t6, t7, t8⟩ := cells9' BM
    exact bodyPost_ret (v := .tuple #[.agg #[.int .u32 0, .int .u32 0], .agg #[.int .i64 0, .int .i64 0, .int .u32 0, .int .u32 0, .int .i64 0, .int .i64 0, .int .i64 0, .slice none 0 0, .slice none 0 0], .int .i64 14]) (by simp [results, Tryd.results16, go_sem, r0, r1, t0, t1, t2, t3, t4, t5, t6, t7, t8]) rfl ⟨rfl, hM.bel (by omega) (hN.bel (by omega) hbw1)⟩
  | true =>
    go_wp2_with fail
    refine (HW2.out w1).mono ?_
    rintro e w2 ⟨rfl, hb2⟩
    have B0 := B0a.below hb2
    have B1 := B1a.below hb2
    have B2 := B2a.below hb2
    have B3 := B3a.below hb2
    have hbw2 := bel_then hbw1 hb2
    have hs2 := hb2.size
    clear B0a B1a B2a B3a hbw1 hb2 HW1 HW2 c0 c1 c2 c3 c4 c5 c6 c7 c8
    have d2 := B0.cell (i := 2) rfl
    have e3 := B1.cell (i := 3) rfl
    cases q2 with
    | false =>
      go_wp2_with (first | (refine wpList_stB 31 _ _ (by with_reducible rfl) rfl (by rfl) _ (by rfl) B2 (by rfl) (shift_size (by rfl)) (by rfl) ?_; intro wN BN hN; have B3n := B3.only hN (by omega)) | (refine wpList_stB 29 _ _ (by with_reducible rfl) rfl (by rfl) _ (by rfl) B3n (by rfl) (tcp_size (by rfl)) (by rfl) ?_; intro wM BM hM))
      have BN' := BN.only hM (by omega)
      have r0 := BN'.cell (i := 0) rfl
      have r1 := BN'.cell (i := 1) rfl
      obtain ⟨t0, t1, t2, t3, t4, t5, t6, t7, t8⟩ := cells9' BM
      exact bodyPost_ret (v := .tuple #[.agg #[.int .u32 0, .int .u32 0], .agg #[.int .i64 0, .int .i64 0, .int .u32 0, .int .u32 0, .int .i64 0, .int .i64 0, .int .i64 0, .slice none 0 0, .slice none 0 0], .int .i64 14]) (by simp [results, Tryd.results16, go_sem, r0, r1, t0, t1, t2, t3, t4, t5, t6, t7, t8]) rfl ⟨rfl, hM.bel (by omega) (hN.bel (by omega) hbw2)⟩
    | true =>
      obtain rfl : q3 = false := by simpa using hq
      go_wp2_with (first | (refine wpList_stB 31 _ _ (by with_reducible rfl) rfl (by rfl) _ (by rfl) B2 (by rfl) (shift_size (by rfl)) (by rfl) ?_; intro wN BN hN; have B3n := B3.only hN (by omega)) | (refine wpList_stB 29 _ _ (by with_reducible rfl) rfl (by rfl) _ (by rfl) B3n (by rfl) (tcp_size (by rfl)) (by rfl) ?_; intro wM BM hM))
      have BN' := BN.only hM (by omega)
      have r0 := BN'.cell (i := 0) rfl
      have r1 := BN'.cell (i := 1) rfl
      obtain ⟨t0, t1, t2, t3, t4, t5, t6, t7, t8⟩ := cells9' BM
      exact bodyPost_ret (v := .tuple #[.agg #[.int .u32 0, .int .u32 0], .agg #[.int .i64 0, .int .i64 0, .int .u32 0, .int .u32 0, .int .i64 0, .int .i64 0, .int .i64 0, .slice none 0 0, .slice none 0 0], .int .i64 14]) (by simp [results, Tryd.results16, go_sem, r0, r1, t0, t1, t2, t3, t4, t5, t6, t7, t8]) rfl ⟨rfl, hM.bel (by omega) (hN.bel (by omega) hbw2)⟩
set_option maxHeartbeats 4000000 in
theorem rlearn_spec (t u : Tcp.T) (st : Int) (w : World) (h1 : Hid (Go.bits .and .i64 t.fl 23 = 16)) (h2 : Hid (Go.bits .and .i64 u.fl 23 = 18)) (h3 : Hid (u.ak = t.sq)) (htk : 0 ≤ t.ak ∧ t.ak ≤ 4294967295) (huq : 0 ≤ u.sq ∧ u.sq ≤ 4294967295) :
    Calls Tryd.prog 16 #[.agg #[.int .i64 t.sp, .int .i64 t.dp, .int .u32 t.sq, .int .u32 t.ak, .int .i64 t.fl, .int .i64 t.wi, .int .i64 t.ur, .slice t.Ao t.no t.co, .slice t.Ab t.nb t.cb], .agg #[.int .i64 u.sp, .int .i64 u.dp, .int .u32 u.sq, .int .u32 u.ak, .int .i64 u.fl, .int .i64 u.wi, .int .i64 u.ur, .slice u.Ao u.no u.co, .slice u.Ab u.nb u.cb], .int .u32 st] w (LearnR t u st w) := by
  obtain ⟨W, hW⟩ : ∃ W, W = (((w.alloc (.cells #[.int .i64 t.sp, .int .i64 t.dp, .int .u32 t.sq, .int .u32 t.ak, .int .i64 t.fl, .int .i64 t.wi, .int .i64 t.ur, .slice t.Ao t.no t.co, .slice t.Ab t.nb t.cb] 29)).alloc (.cells #[.int .i64 u.sp, .int .i64 u.dp, .int .u32 u.sq, .int .u32 u.ak, .int .i64 u.fl, .int .i64 u.wi, .int .i64 u.ur, .slice u.Ao u.no u.co, .slice u.Ab u.nb u.cb] 29)).alloc (.cells #[.int .u32 0, .int .u32 0] 31)).alloc (.cells #[.int .i64 0, .int .i64 0, .int .u32 0, .int .u32 0, .int .i64 0, .int .i64 0, .int .i64 0, .slice none 0 0, .slice none 0 0] 29) := ⟨_, rfl⟩
  have hbW : Below w.heap.size w W := by rw [hW]; exact ((((Below.refl _ _).alloc (Nat.le_refl _) _).alloc (by simp) _).alloc (by simp; omega) _).alloc (by simp; omega) _
  have hWs : w.heap.size + 3 < W.heap.size := by rw [hW]; simp
  have B0 : BlkV W w.heap.size 29 [.int .i64 t.sp, .int .i64 t.dp, .int .u32 t.sq, .int .u32 t.ak, .int .i64 t.fl, .int .i64 t.wi, .int .i64 t.ur, .slice t.Ao t.no t.co, .slice t.Ab t.nb t.cb] := by rw [hW]; exact (((BlkV.new w _ _).alloc _).alloc _).alloc _
  have B1 : BlkV W (w.heap.size + 1) 29 [.int .i64 u.sp, .int .i64 u.dp, .int .u32 u.sq, .int .u32 u.ak, .int .i64 u.fl, .int .i64 u.wi, .int .i64 u.ur, .slice u.Ao u.no u.co, .slice u.Ab u.nb u.cb] := by rw [hW]; exact ((BlkV.new_at (w.alloc (.cells #[.int .i64 t.sp, .int .i64 t.dp, .int .u32 t.sq, .int .u32 t.ak, .int .i64 t.fl, .int .i64 t.wi, .int .i64 t.ur, .slice t.Ao t.no t.co, .slice t.Ab t.nb t.cb] 29)) _ _ (by simp)).alloc _).alloc _
  have B2 : BlkV W (w.heap.size + 1 + 1) 31 [.int .u32 0, .int .u32 0] := by rw [hW]; exact (BlkV.new_at ((w.alloc (.cells #[.int .i64 t.sp, .int .i64 t.dp, .int .u32 t.sq, .int .u32 t.ak, .int .i64 t.fl, .int .i64 t.wi, .int .i64 t.ur, .slice t.Ao t.no t.co, .slice t.Ab t.nb t.cb] 29)).alloc (.cells #[.int .i64 u.sp, .int .i64 u.dp, .int .u32 u.sq, .int .u32 u.ak, .int .i64 u.fl, .int .i64 u.wi, .int .i64 u.ur, .slice u.Ao u.no u.co, .slice u.Ab u.nb u.cb] 29)) _ _ (by simp)).alloc _
  have B3 : BlkV W (w.heap.size + 1 + 1 + 1) 29 [.int .i64 0, .int .i64 0, .int .u32 0, .int .u32 0, .int .i64 0, .int .i64 0, .int .i64 0, .slice none 0 0, .slice none 0 0] := by rw [hW]; exact BlkV.new_at (((w.alloc (.cells #[.int .i64 t.sp, .int .i64 t.dp, .int .u32 t.sq, .int .u32 t.ak, .int .i64 t.fl, .int .i64 t.wi, .int .i64 t.ur, .slice t.Ao t.no t.co, .slice t.Ab t.nb t.cb] 29)).alloc (.cells #[.int .i64 u.sp, .int .i64 u.dp, .int .u32 u.sq, .int .u32 u.ak, .int .i64 u.fl, .int .i64 u.wi, .int .i64 u.ur, .slice u.Ao u.no u.co, .slice u.Ab u.nb u.cb] 29)).alloc (.cells #[.int .u32 0, .int .u32 0] 31)) _ _ (by simp)
  have HW1 := Lib.hid (fun w => rflags_spec t false true w)
  have HW2 := Lib.hid (fun w => rflags_spec u true true w)
  rw [show Prox.wd false true = 16 from rfl, h1.out] at HW1
  rw [show Prox.wd true true = 18 from rfl, h2.out] at HW2
  simp only [beq_self_eq_true] at HW1 HW2
  have hq3 : (u.ak != t.sq) = false := by rw [h3.out]; simp
  clear h1 h2 h3
  have HS1 := Lib.hid (fun w => ron_spec t.ak 4294967295 w htk.1 htk.2 (by decide) (by decide))
  have HS2 := Lib.hid (fun w => ron_spec u.sq 1 w huq.1 huq.2 (by decide) (by decide))
  simp only [show (u.sq + 1) % 4294967296 = Seq.step u.sq 1 by (simp only [Seq.step]; omega)] at HS2
  obtain ⟨bk, hbk⟩ : ∃ bk, (t.ak + 4294967295) % 4294967296 = bk := ⟨_, rfl⟩
  have hbk2 : 0 ≤ bk ∧ bk ≤ 4294967295 := by omega
  have hse : (u.sq - Seq.step t.ak (-1)) % 4294967296 = (u.sq + (4294967296 - bk)) % 4294967296 := by (simp only [Seq.step]; omega)
  simp only [hbk] at HS1
  unfold LearnR
  rw [hse]
  obtain ⟨hbk0, hbk1⟩ := hbk2
  obtain ⟨huq0, huq1⟩ := huq
  clear hbk hse htk
  go_enter Tryd.func16, Tryd.ntmps16
  go_upto_region 1 with (fail)
  rw [← hW]
  clear hW
  go_wp2_with (refine wpList_ldB 29 _ _ (by with_reducible rfl) rfl (by rfl) B0 Tryd.underlying29 rfl (tcp_size (by rfl)) ?_)
  refine (HW1.out W).mono ?_
  rintro e w1 ⟨rfl, hb1⟩
  obtain ⟨c0, c1, c2, c3, c4, c5, c6, c7, c8⟩ := cells9' (B1.below hb1)
  have B0a := B0.below hb1
  have B1a := B1.below hb1
  have B2a := B2.below hb1
  have B3a := B3.below hb1
  have hbw1 := bel_then hbW hb1
  have hs1 := hb1.size
  clear B0 B1 B2 B3 hbW hb1
  go_wp2_with fail
  refine (HW2.out w1).mono ?_
  rintro e w2 ⟨rfl, hb2⟩
  have B0 := B0a.below hb2
  have B1 := B1a.below hb2
  have B2 := B2a.below hb2
  have B3 := B3a.below hb2
  have hbw2 := bel_then hbw1 hb2
  have hs2 := hb2.size
  clear B0a B1a B2a B3a hbw1 hb2 HW1 HW2 c0 c1 c2 c3 c4 c5 c6 c7 c8
  have d2 := B0.cell (i := 2) rfl
  have e3 := B1.cell (i := 3) rfl
  have d3 := B0.cell (i := 3) rfl
  have e2 := B1.cell (i := 2) rfl
  go_wp2_with fail
  refine (HS1.out _).mono ?_
  rintro e w' ⟨rfl, rfl⟩
  go_upto_region 5 with (fail)
  obtain ⟨p, hpe⟩ : ∃ p, p = w2.heap.size := ⟨_, rfl⟩
  obtain ⟨wy, hwx⟩ : ∃ wy, wy = w2.alloc (.cells #[.int .u32 ((u.sq + (4294967296 - bk)) % 4294967296), .int .u32 st] 31) := ⟨_, rfl⟩
  have hb3 : Below w2.heap.size w2 wy := by rw [hwx]; exact bel_a (Below.refl _ _) _
  have B4 : BlkV wy p 31 [.int .u32 ((u.sq + (4294967296 - bk)) % 4294967296), .int .u32 st] := by rw [hwx, hpe]; exact BlkV.new w2 _ _
  have hp : w2.heap.size ≤ p := by omega
  rw [← hwx, ← hpe]
  clear hwx hpe d3 e2
  have B0d := B0.below hb3
  have B1d := B1.below hb3
  have B2d := B2.below hb3
  have B3d := B3.below hb3
  have hbw3 := bel_then hbw2 hb3
  have hs3 := hb3.size
  clear B0 B1 B2 B3 hbw2 hb3 d2 HS1
  have KD : Hid (∀ w' : World, BlkV w' w.heap.size 29 [.int .i64 t.sp, .int .i64 t.dp, .int .u32 t.sq, .int .u32 t.ak, .int .i64 t.fl, .int .i64 t.wi, .int .i64 t.ur, .slice t.Ao t.no t.co, .slice t.Ab t.nb t.cb] → BlkV w' (w.heap.size + 1) 29 [.int .i64 u.sp, .int .i64 u.dp, .int .u32 u.sq, .int .u32 u.ak, .int .i64 u.fl, .int .i64 u.wi, .int .i64 u.ur, .slice u.Ao u.no u.co, .slice u.Ab u.nb u.cb] → BlkV w' p 31 [.int .u32 ((u.sq + (4294967296 - bk)) % 4294967296), .int .u32 st] → (w'.cell? ⟨w.heap.size, 5, none⟩ = some (.int .i64 t.wi) ∧ w'.cell? ⟨w.heap.size + 1, 0, none⟩ = some (.int .i64 u.sp) ∧ w'.cell? ⟨w.heap.size + 1, 1, none⟩ = some (.int .i64 u.dp) ∧ w'.cell? ⟨w.heap.size + 1, 2, none⟩ = some (.int .u32 u.sq) ∧ w'.cell? ⟨w.heap.size + 1, 3, none⟩ = some (.int .u32 u.ak) ∧ w'.cell? ⟨p, 0, none⟩ = some (.int .u32 ((u.sq + (4294967296 - bk)) % 4294967296)) ∧ w'.cell? ⟨p, 1, none⟩ = some (.int .u32 st))) := Lib.hid fun w' h k l => ⟨h.cell rfl, k.cell rfl, k.cell rfl, k.cell rfl, k.cell rfl, l.cell rfl, l.cell rfl⟩
  have hp0 : p ≠ w.heap.size + 1 + 1 := by omega
  have hp1 : p ≠ w.heap.size + 1 + 1 + 1 := by omega
  refine wp_region_held_drew (S := fun w' => (w'.cell? ⟨w.heap.size, 5, none⟩ = some (.int .i64 t.wi) ∧ w'.cell? ⟨w.heap.size + 1, 0, none⟩ = some (.int .i64 u.sp) ∧ w'.cell? ⟨w.heap.size + 1, 1, none⟩ = some (.int .i64 u.dp) ∧ w'.cell? ⟨w.heap.size + 1, 2, none⟩ = some (.int .u32 u.sq) ∧ w'.cell? ⟨w.heap.size + 1, 3, none⟩ = some (.int .u32 u.ak) ∧ w'.cell? ⟨p, 0, none⟩ = some (.int .u32 ((u.sq + (4294967296 - bk)) % 4294967296)) ∧ w'.cell? ⟨p, 1, none⟩ = some (.int .u32 st))) (by kernel_rfl) (KD.out _ B0d B1d B4) (fun hHeld => ?_)
  refine wpAnyH_takeD (i := 0) (some 42) (v := ?_) rfl rfl (by kernel_rfl) (by kernel_rfl) (by kernel_rfl) (fun _ _ _ h => h) (Or.inl ⟨by rfl, ?_⟩) (by assumption) ?_
  rotate_left
  · (intro w hSw; (try dsimp only at hSw); go_simp; try with_reducible rfl)
  try simp only [Act.put, List.setIfInBounds_toArray, List.set_cons_zero, List.set_cons_succ]
  refine wpAnyH_takeD (i := 1) (some 43) (v := ?_) rfl rfl (by kernel_rfl) (by kernel_rfl) (by kernel_rfl) (fun _ _ _ h => h) (Or.inl ⟨by rfl, ?_⟩) (by assumption) ?_
  rotate_left
  · (intro w hSw; (try dsimp only at hSw); go_simp; try with_reducible rfl)
  try simp only [Act.put, List.setIfInBounds_toArray, List.set_cons_zero, List.set_cons_succ]
  refine wpAnyH_takeD (i := 2) (some 44) (v := ?_) rfl rfl (by kernel_rfl) (by kernel_rfl) (by kernel_rfl) (fun _ _ _ h => h) (Or.inl ⟨by rfl, ?_⟩) (by assumption) ?_
  rotate_left
  · (intro w hSw; (try dsimp only at hSw); go_simp; try with_reducible rfl)
  try simp only [Act.put, List.setIfInBounds_toArray, List.set_cons_zero, List.set_cons_succ]
  refine wpAnyH_takeD (i := 3) (some 45) (v := ?_) rfl rfl (by kernel_rfl) (by kernel_rfl) (by kernel_rfl) (fun _ _ _ h => h) (Or.inl ⟨by rfl, ?_⟩) (by assumption) ?_
  rotate_left
  · (intro w hSw; (try dsimp only at hSw); go_simp; try with_reducible rfl)
  try simp only [Act.put, List.setIfInBounds_toArray, List.set_cons_zero, List.set_cons_succ]
  refine wpAnyH_takeD (i := 4) (some 46) (v := ?_) rfl rfl (by kernel_rfl) (by kernel_rfl) (by kernel_rfl) (fun _ _ _ h => h) (Or.inl ⟨by rfl, ?_⟩) (by assumption) ?_
  rotate_left
  · (intro w hSw; (try dsimp only at hSw); go_simp; try with_reducible rfl)
  try simp only [Act.put, List.setIfInBounds_toArray, List.set_cons_zero, List.set_cons_succ]
  refine wpAnyH_takeD (i := 5) (some 47) (v := ?_) rfl rfl (by kernel_rfl) (by kernel_rfl) (by kernel_rfl) (fun _ _ _ h => h) (Or.inl ⟨by rfl, ?_⟩) (by assumption) ?_
  rotate_left
  · (intro w hSw; (try dsimp only at hSw); go_simp; try with_reducible rfl)
  try simp only [Act.put, List.setIfInBounds_toArray, List.set_cons_zero, List.set_cons_succ]
  refine wpAnyH_takeD (i := 6) (some 48) (v := ?_) rfl rfl (by kernel_rfl) (by kernel_rfl) (by kernel_rfl) (fun _ _ _ h => h) (Or.inl ⟨by rfl, ?_⟩) (by assumption) ?_
  rotate_left
  · (intro w hSw; (try dsimp only at hSw); go_simp; try with_reducible rfl)
  try simp only [Act.put, List.setIfInBounds_toArray, List.set_cons_zero, List.set_cons_succ]
  refine wpAnyH_takeD (i := 7) (some 49) (v := ?_) rfl rfl (by kernel_rfl) (by kernel_rfl) (by kernel_rfl) (fun _ _ _ h => h) (Or.inl ⟨by rfl, ?_⟩) (by assumption) ?_
  rotate_left
  · (intro w hSw; (try dsimp only at hSw); go_simp; try with_reducible rfl)
  try simp only [Act.put, List.setIfInBounds_toArray, List.set_cons_zero, List.set_cons_succ]
  refine wpAnyH_takeD (i := 8) (some 50) (v := ?_) rfl rfl (by kernel_rfl) (by kernel_rfl) (by kernel_rfl) (fun _ _ _ h => h) (Or.inl ⟨by rfl, ?_⟩) (by assumption) ?_
  rotate_left
  · (intro w hSw; (try dsimp only at hSw); go_simp; try with_reducible rfl)
  try simp only [Act.put, List.setIfInBounds_toArray, List.set_cons_zero, List.set_cons_succ]
  refine wpAnyH_takeD (i := 10) (some 52) (v := ?_) rfl rfl (by kernel_rfl) (by kernel_rfl) (by kernel_rfl) (fun _ _ _ h => h) (Or.inl ⟨by rfl, ?_⟩) (by assumption) ?_
  rotate_left
  · (intro w hSw; (try dsimp only at hSw); go_simp; try with_reducible rfl)
  try simp only [Act.put, List.setIfInBounds_toArray, List.set_cons_zero, List.set_cons_succ]
  refine wpAnyH_takeD (i := 11) (some 53) (v := ?_) rfl rfl (by kernel_rfl) (by kernel_rfl) (by kernel_rfl) (fun _ _ _ h => h) (Or.inl ⟨by rfl, ?_⟩) (by assumption) ?_
  rotate_left
  · (intro w hSw; (try dsimp only at hSw); go_simp; try with_reducible rfl)
  try simp only [Act.put, List.setIfInBounds_toArray, List.set_cons_zero, List.set_cons_succ]
  refine wpAnyH_ready (rs := [9]) (by kernel_rfl) (by simp) ?_
  refine AllReadyH.cons (o := _) rfl (fun K hK => ?_) AllReadyH.nil
  go_simp
  refine (HS2.out _).mono ?_
  rintro e wx ⟨rfl, rfl⟩
  go_wp2_with fail
  refine hK.out _ _ (KD.out _ B0d B1d B4) (fun hHeld => ?_)
  clear hK K
  try simp only [Act.put, List.setIfInBounds_toArray, List.set_cons_zero, List.set_cons_succ]
  refine wpAnyH_takeD (i := 12) (some 54) (v := ?_) rfl rfl (by kernel_rfl) (by kernel_rfl) (by kernel_rfl) (fun _ _ _ h => h) (Or.inl ⟨by rfl, ?_⟩) (by assumption) ?_
  rotate_left
  · (intro w hSw; (try dsimp only at hSw); go_simp; try with_reducible rfl)
  try simp only [Act.put, List.setIfInBounds_toArray, List.set_cons_zero, List.set_cons_succ]
  refine wpAnyH_ready (rs := [13]) (by kernel_rfl) (by simp) ?_
  refine AllReadyH.cons (o := _) rfl (fun K hK => ?_) AllReadyH.nil
  rw [if_pos (by rfl)]
  refine wp_stB 31 _ _ rfl (by rfl) (by rfl) _ (by rfl) (show BlkV wy.drew _ _ _ from B2d) (by rfl) (shift_size (by rfl)) (by rfl) ?_
  intro wN BN hO
  have B0e := (show BlkV wy.drew _ _ _ from B0d).only hO (by omega)
  have B1e := (show BlkV wy.drew _ _ _ from B1d).only hO (by omega)
  have B3e := (show BlkV wy.drew _ _ _ from B3d).only hO (by omega)
  have B4e := (show BlkV wy.drew _ _ _ from B4).only hO hp0
  refine hK.out _ _ (KD.out _ B0e B1e B4e) (fun hHeld => ?_)
  clear hK K
  try simp only [Act.put, List.setIfInBounds_toArray, List.set_cons_zero, List.set_cons_succ]
  refine wpAnyH_ready (rs := [14]) (by kernel_rfl) (by simp) ?_
  refine AllReadyH.cons (o := _) rfl (fun K hK => ?_) AllReadyH.nil
  rw [if_pos (by rfl)]
  refine wp_stB 29 _ _ rfl (by rfl) (by rfl) _ (by rfl) B3e (by rfl) (tcp_size (by rfl)) (by rfl) ?_
  intro wM BM hM
  refine hK.out _ _ (KD.out _ (B0e.only hM (by omega)) (B1e.only hM (by omega)) (B4e.only hM hp1)) (fun hHeld => ?_)
  clear hK K
  try simp only [Act.put, List.setIfInBounds_toArray, List.set_cons_zero, List.set_cons_succ]
  refine wpAnyH_takeD (i := 15) (some 8) (v := ?_) rfl rfl (by kernel_rfl) (by kernel_rfl) (by kernel_rfl) (fun _ _ _ h => h) (Or.inl ⟨by rfl, ?_⟩) (by assumption) ?_
  rotate_left
  · (intro w hSw; (try dsimp only at hSw); go_simp; try with_reducible rfl)
  try simp only [Act.put, List.setIfInBounds_toArray, List.set_cons_zero, List.set_cons_succ]
  refine wpAnyH_done (by kernel_rfl) ?_ _
  have BN' := BN.only hM (by omega)
  have r0 := BN'.cell (i := 0) rfl
  have r1 := BN'.cell (i := 1) rfl
  obtain ⟨t0, t1, t2, t3, t4, t5, t6, t7, t8⟩ := cells9' BM
  clear BN BM BN' B0e B1e B3e B4e B0d B1d B2d B3d B4 hHeld KD
  go_wp2_with fail
  exact bodyPost_ret (v := .tuple #[.agg #[.int .u32 ((u.sq + (4294967296 - bk)) % 4294967296), .int .u32 st], .agg #[.int .i64 u.dp, .int .i64 u.sp, .int .u32 u.ak, .int .u32 (Seq.step u.sq 1), .int .i64 16, .int .i64 t.wi, .int .i64 0, .slice none 0 0, .slice none 0 0], .int .i64 0]) (by simp [results, Tryd.results16, go_sem, r0, r1, t0, t1, t2, t3, t4, t5, t6, t7, t8]) rfl ⟨rfl, hM.bel (by omega) (hO.bel (by omega) (bel_d hbw3))⟩
end Go.Proofs.YtpidpbjbgjkaaaaDoor
