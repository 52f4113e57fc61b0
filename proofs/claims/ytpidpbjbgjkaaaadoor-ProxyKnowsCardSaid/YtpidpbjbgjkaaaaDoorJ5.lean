/- The walks of proxy.Answer and of its reference. The walk of casemateref24.Answer. -/
import Derived.Test.YtpidpbjbgjkaaaaDoorProxMask
namespace Go.Proofs.YtpidpbjbgjkaaaaDoor
open Go.RowKit
set_option maxRecDepth 8000
set_option linter.unusedVariables false
set_option linter.unusedSimpArgs false
/-- a segment that reads, and whose memory lies from block B on: it reads wherever these blocks are as they were -/
def Tcp.T.okF (u : Tcp.T) (w : World) (B : Nat) : Prop := ∀ w' : World, w.heap.size ≤ w'.heap.size → (∀ k, B ≤ k → k < w.heap.size → w'.heap[k]? = w.heap[k]?) → u.ok w'
theorem Tcp.T.okF.okay {u : Tcp.T} {w : World} {B : Nat} (h : u.okF w B) : u.ok w := h w (Nat.le_refl _) fun _ _ _ => rfl
theorem Tcp.T.okF.below {u : Tcp.T} {w w1 : World} {B : Nat} (h : u.okF w B) (hb : Below w.heap.size w w1) : u.okF w1 B := fun w' hs hk => h w' (Nat.le_trans hb.size hs) fun k h1 h2 => (hk k h1 (Nat.lt_of_lt_of_le h2 hb.size)).trans (hb.block k h2)
theorem Tcp.T.okF.only {u : Tcp.T} {w w1 : World} {B g : Nat} (h : u.okF w B) (ho : OnlyB g w w1) (hg : g < B) : u.okF w1 B := fun w' hs hk => h w' (by have := ho.size; omega) fun k h1 h2 => (hk k h1 (by have := ho.size; omega)).trans (ho.block k (by omega))
/-- no option, or one that tells a size; no body -/
def Tcp.T.slim (u : Tcp.T) : Prop := (u.opts = [] ∧ u.Ao = none ∧ u.no = 0 ∧ u.co = 0 ∨ ∃ q m, u.Ao = some ⟨q + 1, 0, none⟩ ∧ u.no = 1 ∧ u.co = 1 ∧ u.opts = [Prox.mssO q m]) ∧ u.Ab = none ∧ u.nb = 0 ∧ u.cb = 0
/-- a segment and an answer's number -/
def SegR (C : Option Prox.C) (n : Int) (w : World) (e : Ending) (w' : World) : Prop :=
  Below w.heap.size w w' ∧ ∃ u : Tcp.T, e = .returned (.tuple #[.agg u.cells.toArray, .int .i64 n]) ∧ u.okF w' w.heap.size ∧ (∀ c, C = some c → u.con = c) ∧ u.slim
def Tcp.zero : Tcp.T := ⟨0, 0, 0, 0, 0, 0, 0, none, 0, 0, none, 0, 0, [], []⟩
theorem slim_zero : Tcp.zero.slim := ⟨.inl ⟨rfl, rfl, rfl, rfl⟩, rfl, rfl, rfl⟩
theorem tcp_zero_ok (w : World) : Tcp.zero.ok w := ⟨by decide, by decide, by decide, by decide, ⟨rfl, fun o h => (by cases h), fun h => absurd h (by decide)⟩, by decide, by decide, ⟨rfl, fun h => absurd h (by decide)⟩, fun x h => (by cases h), by decide, by decide⟩
set_option maxHeartbeats 4000000 in
theorem pans_no (t : Tcp.T) (c : Int) (w : World) (h : (Go.bits .and .i64 t.fl 23 == 2) = false) :
    Calls Tryd.prog 8 #[.agg #[.int .i64 t.sp, .int .i64 t.dp, .int .u32 t.sq, .int .u32 t.ak, .int .i64 t.fl, .int .i64 t.wi, .int .i64 t.ur, .slice t.Ao t.no t.co, .slice t.Ab t.nb t.cb], .int .u32 c] w (SegR (some Tcp.zero.con) 14 w) := by
  obtain ⟨W, hW⟩ : ∃ W, W = (w.alloc (.cells #[.int .i64 t.sp, .int .i64 t.dp, .int .u32 t.sq, .int .u32 t.ak, .int .i64 t.fl, .int .i64 t.wi, .int .i64 t.ur, .slice t.Ao t.no t.co, .slice t.Ab t.nb t.cb] 29)).alloc (.cells #[.int .i64 0, .int .i64 0, .int .u32 0, .int .u32 0, .int .i64 0, .int .i64 0, .int .i64 0, .slice none 0 0, .slice none 0 0] 29) := ⟨_, rfl⟩
  have hbW : Below w.heap.size w W := by rw [hW]; exact ((Below.refl _ _).alloc (Nat.le_refl _) _).alloc (by simp) _
  have B0 : BlkV W w.heap.size 29 [.int .i64 t.sp, .int .i64 t.dp, .int .u32 t.sq, .int .u32 t.ak, .int .i64 t.fl, .int .i64 t.wi, .int .i64 t.ur, .slice t.Ao t.no t.co, .slice t.Ab t.nb t.cb] := by rw [hW]; exact (BlkV.new w _ _).alloc _
  have B3 : BlkV W (w.heap.size + 1) 29 [.int .i64 0, .int .i64 0, .int .u32 0, .int .u32 0, .int .i64 0, .int .i64 0, .int .i64 0, .slice none 0 0, .slice none 0 0] := by rw [hW]; exact BlkV.new_at (w.alloc (.cells #[.int .i64 t.sp, .int .i64 t.dp, .int .u32 t.sq, .int .u32 t.ak, .int .i64 t.fl, .int .i64 t.wi, .int .i64 t.ur, .slice t.Ao t.no t.co, .slice t.Ab t.nb t.cb] 29)) _ _ (by simp)
  have HW1 := Lib.hid (fun w => pwords_spec t w)
  have hne : (Go.bits .and .i64 t.fl 23 != 2) = true := by rw [bne, h]; rfl
  obtain ⟨x, hx⟩ : ∃ x, Go.bits .and .i64 t.fl 23 = x := ⟨_, rfl⟩
  rw [hx] at HW1 hne
  go_enter Tryd.func8, Tryd.ntmps8
  go_upto_region 1 with (fail)
  rw [← hW]
  clear hW
  go_wp2_with (refine wpList_ldB 29 _ _ (by with_reducible rfl) rfl (by rfl) B0 Tryd.underlying29 rfl (tcp_size (by rfl)) ?_)
  refine (HW1.out W).mono ?_
  rintro e w1 ⟨rfl, hb1⟩
  have B3a := B3.below hb1
  have hbw1 := bel_then hbW hb1
  have hs1 := hb1.size
  clear B0 B3
  go_wp2_with (first | (refine wpList_stB 29 _ _ (by with_reducible rfl) rfl (by rfl) _ (by rfl) B3a (by rfl) (tcp_size (by rfl)) (by rfl) ?_; intro wM BM hM))
  obtain ⟨t0, t1, t2, t3, t4, t5, t6, t7, t8⟩ := cells9' BM
  exact bodyPost_ret (v := .tuple #[.agg #[.int .i64 0, .int .i64 0, .int .u32 0, .int .u32 0, .int .i64 0, .int .i64 0, .int .i64 0, .slice none 0 0, .slice none 0 0], .int .i64 14]) (by simp [results, Tryd.results8, go_sem, t0, t1, t2, t3, t4, t5, t6, t7, t8]) rfl ⟨hM.bel (by omega) hbw1, Tcp.zero, rfl, fun w' _ _ => tcp_zero_ok w', fun c hc => by injection hc, slim_zero⟩
def Tcp.ans (t : Tcp.T) (c : Int) (q : Nat) : Tcp.T := ⟨t.dp, t.sp, c, Seq.step t.sq 1, 18, 0, 0, some ⟨q + 1, 0, none⟩, 1, 1, none, 0, 0, [Prox.mssO q 1460], []⟩
def Prox.ansC (t : Prox.C) (c : Int) : Prox.C := ⟨t.dp, t.sp, c, Seq.step t.sq 1, 18, 0, 0, [(2, [5, 180])], []⟩
theorem onlyB_cell {w w' : World} {g k i : Nat} (h : OnlyB g w w') (hk : k ≠ g) : w'.cell? ⟨k, i, none⟩ = w.cell? ⟨k, i, none⟩ := by
  simp [World.cell?, h.block k hk]
theorem tcp_ans_ok {t : Tcp.T} {c : Int} {q : Nat} {w : World} (h0 : 0 ≤ c) (h1 : c ≤ 4294967295) (ho : Tcp.OptsRd w (some ⟨q + 1, 0, none⟩) 1 [Prox.mssO q 1460]) : (Tcp.ans t c q).ok w :=
  ⟨⟨h0, h1⟩, (by simp only [Tcp.ans, Seq.step]; omega), (by simp only [Tcp.ans]; omega), (by simp only [Tcp.ans]; omega), ho, (by simp only [Tcp.ans]; omega), (by simp only [Tcp.ans]; omega), ⟨rfl, fun h => absurd h (by simp [Tcp.ans])⟩, fun x h => (by cases h), (by simp only [Tcp.ans]; omega), (by simp only [Tcp.ans]; omega)⟩
theorem mss_only {w w' : World} {g q : Nat} {m : Int} (h : Tcp.OptsRd w (some ⟨q + 1, 0, none⟩) 1 [Prox.mssO q m]) (ho : OnlyB g w w') (h1 : q ≠ g) (h2 : q + 1 ≠ g) : Tcp.OptsRd w' (some ⟨q + 1, 0, none⟩) 1 [Prox.mssO q m] := by
  have hcell : ∀ {k i : Nat}, k ≠ g → w'.cell? ⟨k, i, none⟩ = w.cell? ⟨k, i, none⟩ := fun {k i} hk => onlyB_cell ho hk
  obtain ⟨e, hk, hc⟩ := h
  refine ⟨rfl, fun o hm => ?_, fun h0 => ?_⟩
  · obtain ⟨⟨a, b⟩, c⟩ := hk o hm
    rw [List.mem_singleton] at hm
    subst hm
    refine ⟨⟨a, fun hn => ?_⟩, c⟩
    obtain ⟨bb, off, e, hs, hx⟩ := b hn
    have e2 : some (⟨q, 0, none⟩ : Addr) = some ⟨bb, off, none⟩ := e
    injection e2 with e2
    injection e2 with e3 e4 _
    subst e3
    exact ⟨_, _, e, Nat.lt_of_lt_of_le hs (Nat.le_of_eq ho.size.symm), fun j u hj => (hcell h1).trans (hx j u hj)⟩
  · obtain ⟨bb, off, e, hs, hx⟩ := hc h0
    injection e with e2
    injection e2 with e3 e4 _
    subst e3 e4
    exact ⟨_, _, rfl, Nat.lt_of_lt_of_le hs (Nat.le_of_eq ho.size.symm), fun j o hj => ⟨(hcell h2).trans (hx j o hj).1, (hcell h2).trans (hx j o hj).2⟩⟩
theorem mss_fr {w w' : World} {q B : Nat} {m : Int} (h : Tcp.OptsRd w (some ⟨q + 1, 0, none⟩) 1 [Prox.mssO q m]) (hq : B ≤ q) (hs : w.heap.size ≤ w'.heap.size) (hk : ∀ k, B ≤ k → k < w.heap.size → w'.heap[k]? = w.heap[k]?) : Tcp.OptsRd w' (some ⟨q + 1, 0, none⟩) 1 [Prox.mssO q m] := by
  have hcell : ∀ {k i : Nat}, B ≤ k → k < w.heap.size → w'.cell? ⟨k, i, none⟩ = w.cell? ⟨k, i, none⟩ := fun {k i} h1 h2 => by simp [World.cell?, hk k h1 h2]
  obtain ⟨e, hk, hc⟩ := h
  refine ⟨rfl, fun o hm => ?_, fun h0 => ?_⟩
  · obtain ⟨⟨a, b⟩, c⟩ := hk o hm
    rw [List.mem_singleton] at hm
    subst hm
    refine ⟨⟨a, fun hn => ?_⟩, c⟩
    obtain ⟨bb, off, e, hss, hx⟩ := b hn
    have e2 : some (⟨q, 0, none⟩ : Addr) = some ⟨bb, off, none⟩ := e
    injection e2 with e2
    injection e2 with e3 e4 _
    subst e3
    exact ⟨_, _, e, Nat.lt_of_lt_of_le hss hs, fun j u hj => (hcell hq hss).trans (hx j u hj)⟩
  · obtain ⟨bb, off, e, hss, hx⟩ := hc h0
    injection e with e2
    injection e2 with e3 e4 _
    subst e3 e4
    exact ⟨_, _, rfl, Nat.lt_of_lt_of_le hss hs, fun j o hj => ⟨(hcell (by omega) hss).trans (hx j o hj).1, (hcell (by omega) hss).trans (hx j o hj).2⟩⟩
set_option maxHeartbeats 8000000 in
theorem pans_ok (t : Tcp.T) (c : Int) (w : World) (h0 : 0 ≤ c) (h1 : c ≤ 4294967295) (h : (Go.bits .and .i64 t.fl 23 == 2) = true) :
    Calls Tryd.prog 8 #[.agg #[.int .i64 t.sp, .int .i64 t.dp, .int .u32 t.sq, .int .u32 t.ak, .int .i64 t.fl, .int .i64 t.wi, .int .i64 t.ur, .slice t.Ao t.no t.co, .slice t.Ab t.nb t.cb], .int .u32 c] w (SegR (some (Prox.ansC t.con c)) 0 w) := by
  obtain ⟨W, hW⟩ : ∃ W, W = (w.alloc (.cells #[.int .i64 t.sp, .int .i64 t.dp, .int .u32 t.sq, .int .u32 t.ak, .int .i64 t.fl, .int .i64 t.wi, .int .i64 t.ur, .slice t.Ao t.no t.co, .slice t.Ab t.nb t.cb] 29)).alloc (.cells #[.int .i64 0, .int .i64 0, .int .u32 0, .int .u32 0, .int .i64 0, .int .i64 0, .int .i64 0, .slice none 0 0, .slice none 0 0] 29) := ⟨_, rfl⟩
  have hbW : Below w.heap.size w W := by rw [hW]; exact ((Below.refl _ _).alloc (Nat.le_refl _) _).alloc (by simp) _
  have hWs : w.heap.size + 1 < W.heap.size := by rw [hW]; simp
  have B0 : BlkV W w.heap.size 29 [.int .i64 t.sp, .int .i64 t.dp, .int .u32 t.sq, .int .u32 t.ak, .int .i64 t.fl, .int .i64 t.wi, .int .i64 t.ur, .slice t.Ao t.no t.co, .slice t.Ab t.nb t.cb] := by rw [hW]; exact (BlkV.new w _ _).alloc _
  have B3 : BlkV W (w.heap.size + 1) 29 [.int .i64 0, .int .i64 0, .int .u32 0, .int .u32 0, .int .i64 0, .int .i64 0, .int .i64 0, .slice none 0 0, .slice none 0 0] := by rw [hW]; exact BlkV.new_at (w.alloc (.cells #[.int .i64 t.sp, .int .i64 t.dp, .int .u32 t.sq, .int .u32 t.ak, .int .i64 t.fl, .int .i64 t.wi, .int .i64 t.ur, .slice t.Ao t.no t.co, .slice t.Ab t.nb t.cb] 29)) _ _ (by simp)
  have HW1 := Lib.hid (fun w => pwords_spec t w)
  have hne : (Go.bits .and .i64 t.fl 23 != 2) = false := by rw [bne, h]; rfl
  obtain ⟨x, hx⟩ : ∃ x, Go.bits .and .i64 t.fl 23 = x := ⟨_, rfl⟩
  rw [hx] at HW1 hne
  have HS := Lib.hid (fun w => seq_step t.sq 1 w)
  have HZ := Lib.hid (fun w => psize_spec 1460 (by decide) (by decide) w)
  go_enter Tryd.func8, Tryd.ntmps8
  go_upto_region 1 with (fail)
  rw [← hW]
  clear hW
  go_wp2_with (refine wpList_ldB 29 _ _ (by with_reducible rfl) rfl (by rfl) B0 Tryd.underlying29 rfl (tcp_size (by rfl)) ?_)
  refine (HW1.out W).mono ?_
  rintro e w1 ⟨rfl, hb1⟩
  have B0a := B0.below hb1
  have B3a := B3.below hb1
  have hbw1 := bel_then hbW hb1
  have hs1 := hb1.size
  clear B0 B3 HW1 h hx
  have KB : Hid (∀ w' : World, Below w1.heap.size w1 w' → (w'.cell? ⟨w.heap.size, 0, none⟩ = some (.int .i64 t.sp) ∧ w'.cell? ⟨w.heap.size, 1, none⟩ = some (.int .i64 t.dp) ∧ w'.cell? ⟨w.heap.size, 2, none⟩ = some (.int .u32 t.sq))) := Lib.hid fun w' hb => ⟨(B0a.below hb).cell rfl, (B0a.below hb).cell rfl, (B0a.below hb).cell rfl⟩
  go_upto_region 3 with (fail)
  refine wp_region_held_drew (S := fun w' => (w'.cell? ⟨w.heap.size, 0, none⟩ = some (.int .i64 t.sp) ∧ w'.cell? ⟨w.heap.size, 1, none⟩ = some (.int .i64 t.dp) ∧ w'.cell? ⟨w.heap.size, 2, none⟩ = some (.int .u32 t.sq))) (by kernel_rfl) (KB.out _ (bel_d (Below.refl _ _))) (fun hHeld => ?_)
  refine wpAnyH_takeD (i := 0) (some 10) (v := ?_) rfl rfl (by kernel_rfl) (by kernel_rfl) (by kernel_rfl) (fun _ _ _ h => h) (Or.inl ⟨by rfl, ?_⟩) (by assumption) ?_
  rotate_left
  · (intro w hSw; (try dsimp only at hSw); go_simp; try with_reducible rfl)
  try simp only [Act.put, List.setIfInBounds_toArray, List.set_cons_zero, List.set_cons_succ]
  refine wpAnyH_takeD (i := 1) (some 11) (v := ?_) rfl rfl (by kernel_rfl) (by kernel_rfl) (by kernel_rfl) (fun _ _ _ h => h) (Or.inl ⟨by rfl, ?_⟩) (by assumption) ?_
  rotate_left
  · (intro w hSw; (try dsimp only at hSw); go_simp; try with_reducible rfl)
  try simp only [Act.put, List.setIfInBounds_toArray, List.set_cons_zero, List.set_cons_succ]
  refine wpAnyH_takeD (i := 2) (some 12) (v := ?_) rfl rfl (by kernel_rfl) (by kernel_rfl) (by kernel_rfl) (fun _ _ _ h => h) (Or.inl ⟨by rfl, ?_⟩) (by assumption) ?_
  rotate_left
  · (intro w hSw; (try dsimp only at hSw); go_simp; try with_reducible rfl)
  try simp only [Act.put, List.setIfInBounds_toArray, List.set_cons_zero, List.set_cons_succ]
  refine wpAnyH_takeD (i := 3) (some 13) (v := ?_) rfl rfl (by kernel_rfl) (by kernel_rfl) (by kernel_rfl) (fun _ _ _ h => h) (Or.inl ⟨by rfl, ?_⟩) (by assumption) ?_
  rotate_left
  · (intro w hSw; (try dsimp only at hSw); go_simp; try with_reducible rfl)
  try simp only [Act.put, List.setIfInBounds_toArray, List.set_cons_zero, List.set_cons_succ]
  refine wpAnyH_takeD (i := 4) (some 14) (v := ?_) rfl rfl (by kernel_rfl) (by kernel_rfl) (by kernel_rfl) (fun _ _ _ h => h) (Or.inl ⟨by rfl, ?_⟩) (by assumption) ?_
  rotate_left
  · (intro w hSw; (try dsimp only at hSw); go_simp; try with_reducible rfl)
  try simp only [Act.put, List.setIfInBounds_toArray, List.set_cons_zero, List.set_cons_succ]
  refine wpAnyH_takeD (i := 5) (some 15) (v := ?_) rfl rfl (by kernel_rfl) (by kernel_rfl) (by kernel_rfl) (fun _ _ _ h => h) (Or.inl ⟨by rfl, ?_⟩) (by assumption) ?_
  rotate_left
  · (intro w hSw; (try dsimp only at hSw); go_simp; try with_reducible rfl)
  try simp only [Act.put, List.setIfInBounds_toArray, List.set_cons_zero, List.set_cons_succ]
  refine wpAnyH_takeD (i := 6) (some 16) (v := ?_) rfl rfl (by kernel_rfl) (by kernel_rfl) (by kernel_rfl) (fun _ _ _ h => h) (Or.inl ⟨by rfl, ?_⟩) (by assumption) ?_
  rotate_left
  · (intro w hSw; (try dsimp only at hSw); go_simp; try with_reducible rfl)
  try simp only [Act.put, List.setIfInBounds_toArray, List.set_cons_zero, List.set_cons_succ]
  refine wpAnyH_ready (rs := [7]) (by kernel_rfl) (by simp) ?_
  refine AllReadyH.cons (o := _) rfl (fun K hK => ?_) AllReadyH.nil
  go_simp
  refine (HS.out _).mono ?_
  rintro e wx ⟨rfl, rfl⟩
  go_wp2_with fail
  refine hK.out _ _ (KB.out _ (bel_d (Below.refl _ _))) (fun hHeld => ?_)
  clear hK K
  try simp only [Act.put, List.setIfInBounds_toArray, List.set_cons_zero, List.set_cons_succ]
  refine wpAnyH_ready (rs := [8]) (by kernel_rfl) (by simp) ?_
  refine AllReadyH.cons (o := _) rfl (fun K hK => ?_) AllReadyH.nil
  go_simp
  refine (HZ.out _).mono ?_
  rintro e wz ⟨rfl, hbz, hoz⟩
  have hbz' := bel_then (bel_d (Below.refl w1.heap.size w1)) hbz
  go_wp2_with fail
  refine hK.out _ _ (KB.out _ hbz') (fun hHeld => ?_)
  clear hK K
  try simp only [Act.put, List.setIfInBounds_toArray, List.set_cons_zero, List.set_cons_succ]
  refine wpAnyH_takeD (i := 9) (some 19) (v := ?_) rfl rfl (by kernel_rfl) (by kernel_rfl) (by kernel_rfl) (fun _ _ _ h => h) (Or.inl ⟨by rfl, ?_⟩) (by assumption) ?_
  rotate_left
  · (intro w hSw; (try dsimp only at hSw); go_simp; try with_reducible rfl)
  try simp only [Act.put, List.setIfInBounds_toArray, List.set_cons_zero, List.set_cons_succ]
  refine wpAnyH_ready (rs := [10]) (by kernel_rfl) (by simp) ?_
  refine AllReadyH.cons (o := _) rfl (fun K hK => ?_) AllReadyH.nil
  rw [if_pos (by rfl)]
  have B3z := B3a.below hbz'
  refine wp_stB 29 _ _ rfl (by rfl) (by rfl) _ (by rfl) B3z (by rfl) (tcp_size (by rfl)) (by rfl) ?_
  intro wM BM hM
  have B0z := (B0a.below hbz').only hM (by omega)
  have hWs' := hWs
  refine hK.out _ _ ⟨B0z.cell rfl, B0z.cell rfl, B0z.cell rfl⟩ (fun hHeld => ?_)
  clear hK K
  try simp only [Act.put, List.setIfInBounds_toArray, List.set_cons_zero, List.set_cons_succ]
  refine wpAnyH_takeD (i := 11) (some 5) (v := ?_) rfl rfl (by kernel_rfl) (by kernel_rfl) (by kernel_rfl) (fun _ _ _ h => h) (Or.inl ⟨by rfl, ?_⟩) (by assumption) ?_
  rotate_left
  · (intro w hSw; (try dsimp only at hSw); go_simp; try with_reducible rfl)
  try simp only [Act.put, List.setIfInBounds_toArray, List.set_cons_zero, List.set_cons_succ]
  refine wpAnyH_done (by kernel_rfl) ?_ _
  obtain ⟨t0, t1, t2, t3, t4, t5, t6, t7, t8⟩ := cells9' BM
  go_wp2_with fail
  exact bodyPost_ret (v := .tuple #[.agg #[.int .i64 t.dp, .int .i64 t.sp, .int .u32 c, .int .u32 (Seq.step t.sq 1), .int .i64 18, .int .i64 0, .int .i64 0, .slice (some ⟨w1.heap.size + 1, 0, none⟩) 1 1, .slice none 0 0], .int .i64 0]) (by simp [results, Tryd.results8, go_sem, t0, t1, t2, t3, t4, t5, t6, t7, t8]) rfl ⟨hM.bel (by omega) (bel_then hbw1 hbz'), Tcp.ans t c w1.heap.size, rfl, fun w' hs' hk' => tcp_ans_ok h0 h1 (mss_fr (mss_only hoz hM (by show w1.heap.size ≠ _; omega) (by show w1.heap.size + 1 ≠ _; omega)) (show w.heap.size ≤ w1.heap.size from hbw1.size) hs' hk'), fun c' hc => (by injection hc), ⟨.inr ⟨_, _, rfl, rfl, rfl, rfl⟩, rfl, rfl, rfl⟩⟩
end Go.Proofs.YtpidpbjbgjkaaaaDoor
namespace Go.Proofs.YtpidpbjbgjkaaaaDoor
open Go.RowKit
set_option maxRecDepth 8000
set_option linter.unusedVariables false
set_option linter.unusedSimpArgs false
set_option maxHeartbeats 4000000 in
theorem rans_no (t : Tcp.T) (c : Int) (w : World) (h : (Go.bits .and .i64 t.fl 23 == 2) = false) :
    Calls Tryd.prog 9 #[.agg #[.int .i64 t.sp, .int .i64 t.dp, .int .u32 t.sq, .int .u32 t.ak, .int .i64 t.fl, .int .i64 t.wi, .int .i64 t.ur, .slice t.Ao t.no t.co, .slice t.Ab t.nb t.cb], .int .u32 c] w (SegR (some Tcp.zero.con) 14 w) := by
  obtain ⟨W, hW⟩ : ∃ W, W = (w.alloc (.cells #[.int .i64 t.sp, .int .i64 t.dp, .int .u32 t.sq, .int .u32 t.ak, .int .i64 t.fl, .int .i64 t.wi, .int .i64 t.ur, .slice t.Ao t.no t.co, .slice t.Ab t.nb t.cb] 29)).alloc (.cells #[.int .i64 0, .int .i64 0, .int .u32 0, .int .u32 0, .int .i64 0, .int .i64 0, .int .i64 0, .slice none 0 0, .slice none 0 0] 29) := ⟨_, rfl⟩
  have hbW : Below w.heap.size w W := by rw [hW]; exact ((Below.refl _ _).alloc (Nat.le_refl _) _).alloc (by simp) _
  have B0 : BlkV W w.heap.size 29 [.int .i64 t.sp, .int .i64 t.dp, .int .u32 t.sq, .int .u32 t.ak, .int .i64 t.fl, .int .i64 t.wi, .int .i64 t.ur, .slice t.Ao t.no t.co, .slice t.Ab t.nb t.cb] := by rw [hW]; exact (BlkV.new w _ _).alloc _
  have B3 : BlkV W (w.heap.size + 1) 29 [.int .i64 0, .int .i64 0, .int .u32 0, .int .u32 0, .int .i64 0, .int .i64 0, .int .i64 0, .slice none 0 0, .slice none 0 0] := by rw [hW]; exact BlkV.new_at (w.alloc (.cells #[.int .i64 t.sp, .int .i64 t.dp, .int .u32 t.sq, .int .u32 t.ak, .int .i64 t.fl, .int .i64 t.wi, .int .i64 t.ur, .slice t.Ao t.no t.co, .slice t.Ab t.nb t.cb] 29)) _ _ (by simp)
  have HW1 := Lib.hid (fun w => rflags_spec t true false w)
  rw [show Prox.wd true false = 2 from rfl, h] at HW1
  go_enter Tryd.func9, Tryd.ntmps9
  go_upto_region 1 with (fail)
  rw [← hW]
  clear hW
  go_wp2_with (refine wpList_ldB 29 _ _ (by with_reducible rfl) rfl (by rfl) B0 Tryd.underlying29 rfl (tcp_size (by rfl)) ?_)
  refine (HW1.out W).mono ?_
  rintro e w1 ⟨rfl, hb1⟩
  have B3a := B3.below hb1
  have hbw1 := bel_then hbW hb1
  have hs1 := hb1.size
  clear B0 B3
  go_wp2_with (first | (refine wpList_stB 29 _ _ (by with_reducible rfl) rfl (by rfl) _ (by rfl) B3a (by rfl) (tcp_size (by rfl)) (by rfl) ?_; intro wM BM hM))
  obtain ⟨t0, t1, t2, t3, t4, t5, t6, t7, t8⟩ := cells9' BM
  exact bodyPost_ret (v := .tuple #[.agg #[.int .i64 0, .int .i64 0, .int .u32 0, .int .u32 0, .int .i64 0, .int .i64 0, .int .i64 0, .slice none 0 0, .slice none 0 0], .int .i64 14]) (by simp [results, Tryd.results9, go_sem, t0, t1, t2, t3, t4, t5, t6, t7, t8]) rfl ⟨hM.bel (by omega) hbw1, Tcp.zero, rfl, fun w' _ _ => tcp_zero_ok w', fun c hc => by injection hc, slim_zero⟩
set_option maxHeartbeats 8000000 in
theorem rans_ok (t : Tcp.T) (c : Int) (w : World) (h0 : 0 ≤ c) (h1 : c ≤ 4294967295) (hsq : 0 ≤ t.sq ∧ t.sq ≤ 4294967295) (h : (Go.bits .and .i64 t.fl 23 == 2) = true) :
    Calls Tryd.prog 9 #[.agg #[.int .i64 t.sp, .int .i64 t.dp, .int .u32 t.sq, .int .u32 t.ak, .int .i64 t.fl, .int .i64 t.wi, .int .i64 t.ur, .slice t.Ao t.no t.co, .slice t.Ab t.nb t.cb], .int .u32 c] w (SegR (some (Prox.ansC t.con c)) 0 w) := by
  obtain ⟨W, hW⟩ : ∃ W, W = (w.alloc (.cells #[.int .i64 t.sp, .int .i64 t.dp, .int .u32 t.sq, .int .u32 t.ak, .int .i64 t.fl, .int .i64 t.wi, .int .i64 t.ur, .slice t.Ao t.no t.co, .slice t.Ab t.nb t.cb] 29)).alloc (.cells #[.int .i64 0, .int .i64 0, .int .u32 0, .int .u32 0, .int .i64 0, .int .i64 0, .int .i64 0, .slice none 0 0, .slice none 0 0] 29) := ⟨_, rfl⟩
  have hbW : Below w.heap.size w W := by rw [hW]; exact ((Below.refl _ _).alloc (Nat.le_refl _) _).alloc (by simp) _
  have hWs : w.heap.size + 1 < W.heap.size := by rw [hW]; simp
  have B0 : BlkV W w.heap.size 29 [.int .i64 t.sp, .int .i64 t.dp, .int .u32 t.sq, .int .u32 t.ak, .int .i64 t.fl, .int .i64 t.wi, .int .i64 t.ur, .slice t.Ao t.no t.co, .slice t.Ab t.nb t.cb] := by rw [hW]; exact (BlkV.new w _ _).alloc _
  have B3 : BlkV W (w.heap.size + 1) 29 [.int .i64 0, .int .i64 0, .int .u32 0, .int .u32 0, .int .i64 0, .int .i64 0, .int .i64 0, .slice none 0 0, .slice none 0 0] := by rw [hW]; exact BlkV.new_at (w.alloc (.cells #[.int .i64 t.sp, .int .i64 t.dp, .int .u32 t.sq, .int .u32 t.ak, .int .i64 t.fl, .int .i64 t.wi, .int .i64 t.ur, .slice t.Ao t.no t.co, .slice t.Ab t.nb t.cb] 29)) _ _ (by simp)
  have HW1 := Lib.hid (fun w => rflags_spec t true false w)
  rw [show Prox.wd true false = 2 from rfl, h] at HW1
  have HS := Lib.hid (fun w => ron_spec t.sq 1 w hsq.1 hsq.2 (by decide) (by decide))
  have hst : (t.sq + 1) % 4294967296 = Seq.step t.sq 1 := by (simp only [Seq.step]; omega)
  simp only [hst] at HS
  have HZ := Lib.hid (fun w => rmss_spec 1460 (by decide) (by decide) w)
  go_enter Tryd.func9, Tryd.ntmps9
  go_upto_region 1 with (fail)
  rw [← hW]
  clear hW
  go_wp2_with (refine wpList_ldB 29 _ _ (by with_reducible rfl) rfl (by rfl) B0 Tryd.underlying29 rfl (tcp_size (by rfl)) ?_)
  refine (HW1.out W).mono ?_
  rintro e w1 ⟨rfl, hb1⟩
  have B0a := B0.below hb1
  have B3a := B3.below hb1
  have hbw1 := bel_then hbW hb1
  have hs1 := hb1.size
  clear B0 B3 HW1 h
  have KB : Hid (∀ w' : World, Below w1.heap.size w1 w' → (w'.cell? ⟨w.heap.size, 0, none⟩ = some (.int .i64 t.sp) ∧ w'.cell? ⟨w.heap.size, 1, none⟩ = some (.int .i64 t.dp) ∧ w'.cell? ⟨w.heap.size, 2, none⟩ = some (.int .u32 t.sq))) := Lib.hid fun w' hb => ⟨(B0a.below hb).cell rfl, (B0a.below hb).cell rfl, (B0a.below hb).cell rfl⟩
  go_upto_region 3 with (fail)
  refine wp_region_held_drew (S := fun w' => (w'.cell? ⟨w.heap.size, 0, none⟩ = some (.int .i64 t.sp) ∧ w'.cell? ⟨w.heap.size, 1, none⟩ = some (.int .i64 t.dp) ∧ w'.cell? ⟨w.heap.size, 2, none⟩ = some (.int .u32 t.sq))) (by kernel_rfl) (KB.out _ (bel_d (Below.refl _ _))) (fun hHeld => ?_)
  refine wpAnyH_takeD (i := 0) (some 10) (v := ?_) rfl rfl (by kernel_rfl) (by kernel_rfl) (by kernel_rfl) (fun _ _ _ h => h) (Or.inl ⟨by rfl, ?_⟩) (by assumption) ?_
  rotate_left
  · (intro w hSw; (try dsimp only at hSw); go_simp; try with_reducible rfl)
  try simp only [Act.put, List.setIfInBounds_toArray, List.set_cons_zero, List.set_cons_succ]
  refine wpAnyH_takeD (i := 1) (some 11) (v := ?_) rfl rfl (by kernel_rfl) (by kernel_rfl) (by kernel_rfl) (fun _ _ _ h => h) (Or.inl ⟨by rfl, ?_⟩) (by assumption) ?_
  rotate_left
  · (intro w hSw; (try dsimp only at hSw); go_simp; try with_reducible rfl)
  try simp only [Act.put, List.setIfInBounds_toArray, List.set_cons_zero, List.set_cons_succ]
  refine wpAnyH_takeD (i := 2) (some 12) (v := ?_) rfl rfl (by kernel_rfl) (by kernel_rfl) (by kernel_rfl) (fun _ _ _ h => h) (Or.inl ⟨by rfl, ?_⟩) (by assumption) ?_
  rotate_left
  · (intro w hSw; (try dsimp only at hSw); go_simp; try with_reducible rfl)
  try simp only [Act.put, List.setIfInBounds_toArray, List.set_cons_zero, List.set_cons_succ]
  refine wpAnyH_takeD (i := 3) (some 13) (v := ?_) rfl rfl (by kernel_rfl) (by kernel_rfl) (by kernel_rfl) (fun _ _ _ h => h) (Or.inl ⟨by rfl, ?_⟩) (by assumption) ?_
  rotate_left
  · (intro w hSw; (try dsimp only at hSw); go_simp; try with_reducible rfl)
  try simp only [Act.put, List.setIfInBounds_toArray, List.set_cons_zero, List.set_cons_succ]
  refine wpAnyH_takeD (i := 4) (some 14) (v := ?_) rfl rfl (by kernel_rfl) (by kernel_rfl) (by kernel_rfl) (fun _ _ _ h => h) (Or.inl ⟨by rfl, ?_⟩) (by assumption) ?_
  rotate_left
  · (intro w hSw; (try dsimp only at hSw); go_simp; try with_reducible rfl)
  try simp only [Act.put, List.setIfInBounds_toArray, List.set_cons_zero, List.set_cons_succ]
  refine wpAnyH_takeD (i := 5) (some 15) (v := ?_) rfl rfl (by kernel_rfl) (by kernel_rfl) (by kernel_rfl) (fun _ _ _ h => h) (Or.inl ⟨by rfl, ?_⟩) (by assumption) ?_
  rotate_left
  · (intro w hSw; (try dsimp only at hSw); go_simp; try with_reducible rfl)
  try simp only [Act.put, List.setIfInBounds_toArray, List.set_cons_zero, List.set_cons_succ]
  refine wpAnyH_takeD (i := 6) (some 16) (v := ?_) rfl rfl (by kernel_rfl) (by kernel_rfl) (by kernel_rfl) (fun _ _ _ h => h) (Or.inl ⟨by rfl, ?_⟩) (by assumption) ?_
  rotate_left
  · (intro w hSw; (try dsimp only at hSw); go_simp; try with_reducible rfl)
  try simp only [Act.put, List.setIfInBounds_toArray, List.set_cons_zero, List.set_cons_succ]
  refine wpAnyH_ready (rs := [7]) (by kernel_rfl) (by simp) ?_
  refine AllReadyH.cons (o := _) rfl (fun K hK => ?_) AllReadyH.nil
  go_simp
  refine (HS.out _).mono ?_
  rintro e wx ⟨rfl, rfl⟩
  go_wp2_with fail
  refine hK.out _ _ (KB.out _ (bel_d (Below.refl _ _))) (fun hHeld => ?_)
  clear hK K
  try simp only [Act.put, List.setIfInBounds_toArray, List.set_cons_zero, List.set_cons_succ]
  refine wpAnyH_ready (rs := [8]) (by kernel_rfl) (by simp) ?_
  refine AllReadyH.cons (o := _) rfl (fun K hK => ?_) AllReadyH.nil
  go_simp
  refine (HZ.out _).mono ?_
  rintro e wz ⟨rfl, hbz, hoz⟩
  have hbz' := bel_then (bel_d (Below.refl w1.heap.size w1)) hbz
  go_wp2_with fail
  refine hK.out _ _ (KB.out _ hbz') (fun hHeld => ?_)
  clear hK K
  try simp only [Act.put, List.setIfInBounds_toArray, List.set_cons_zero, List.set_cons_succ]
  refine wpAnyH_takeD (i := 9) (some 19) (v := ?_) rfl rfl (by kernel_rfl) (by kernel_rfl) (by kernel_rfl) (fun _ _ _ h => h) (Or.inl ⟨by rfl, ?_⟩) (by assumption) ?_
  rotate_left
  · (intro w hSw; (try dsimp only at hSw); go_simp; try with_reducible rfl)
  try simp only [Act.put, List.setIfInBounds_toArray, List.set_cons_zero, List.set_cons_succ]
  refine wpAnyH_ready (rs := [10]) (by kernel_rfl) (by simp) ?_
  refine AllReadyH.cons (o := _) rfl (fun K hK => ?_) AllReadyH.nil
  rw [if_pos (by rfl)]
  have B3z := B3a.below hbz'
  refine wp_stB 29 _ _ rfl (by rfl) (by rfl) _ (by rfl) B3z (by rfl) (tcp_size (by rfl)) (by rfl) ?_
  intro wM BM hM
  have B0z := (B0a.below hbz').only hM (by omega)
  have hWs' := hWs
  refine hK.out _ _ ⟨B0z.cell rfl, B0z.cell rfl, B0z.cell rfl⟩ (fun hHeld => ?_)
  clear hK K
  try simp only [Act.put, List.setIfInBounds_toArray, List.set_cons_zero, List.set_cons_succ]
  refine wpAnyH_takeD (i := 11) (some 5) (v := ?_) rfl rfl (by kernel_rfl) (by kernel_rfl) (by kernel_rfl) (fun _ _ _ h => h) (Or.inl ⟨by rfl, ?_⟩) (by assumption) ?_
  rotate_left
  · (intro w hSw; (try dsimp only at hSw); go_simp; try with_reducible rfl)
  try simp only [Act.put, List.setIfInBounds_toArray, List.set_cons_zero, List.set_cons_succ]
  refine wpAnyH_done (by kernel_rfl) ?_ _
  obtain ⟨t0, t1, t2, t3, t4, t5, t6, t7, t8⟩ := cells9' BM
  go_wp2_with fail
  exact bodyPost_ret (v := .tuple #[.agg #[.int .i64 t.dp, .int .i64 t.sp, .int .u32 c, .int .u32 (Seq.step t.sq 1), .int .i64 18, .int .i64 0, .int .i64 0, .slice (some ⟨w1.heap.size + 1, 0, none⟩) 1 1, .slice none 0 0], .int .i64 0]) (by simp [results, Tryd.results9, go_sem, t0, t1, t2, t3, t4, t5, t6, t7, t8]) rfl ⟨hM.bel (by omega) (bel_then hbw1 hbz'), Tcp.ans t c w1.heap.size, rfl, fun w' hs' hk' => tcp_ans_ok h0 h1 (mss_fr (mss_only hoz hM (by show w1.heap.size ≠ _; omega) (by show w1.heap.size + 1 ≠ _; omega)) (show w.heap.size ≤ w1.heap.size from hbw1.size) hs' hk'), fun c' hc => (by injection hc), ⟨.inr ⟨_, _, rfl, rfl, rfl, rfl⟩, rfl, rfl, rfl⟩⟩
end Go.Proofs.YtpidpbjbgjkaaaaDoor
