/- The walk of the proxy laws' awake. -/
import Derived.Test.YtklefgcackchiaaProxLearn
namespace Go.Proofs.Ytklefgcackchiaa
open Go.RowKit
set_option linter.unusedVariables false
set_option linter.unusedSimpArgs false
theorem learn_third (w : World) : Calls Try.prog 12 #[.agg #[.int .i64 0, .int .i64 0, .int .u32 101, .int .u32 1001, .int .i64 16, .int .i64 0, .int .i64 0, .slice none 0 0, .slice none 0 0], .agg #[.int .i64 0, .int .i64 0, .int .u32 5000, .int .u32 101, .int .i64 18, .int .i64 0, .int .i64 0, .slice none 0 0, .slice none 0 0], .int .u32 0] w fun e w' => e = .returned (.tuple #[.agg #[.int .u32 4000, .int .u32 0], .agg #[.int .i64 0, .int .i64 0, .int .u32 101, .int .u32 5001, .int .i64 16, .int .i64 0, .int .i64 0, .slice none 0 0, .slice none 0 0], .int .i64 0]) ∧ Below w.heap.size w w' := by
  refine (plearn_spec ⟨0, 0, 101, 1001, 16, 0, 0, none, 0, 0, none, 0, 0, [], []⟩ ⟨0, 0, 5000, 101, 18, 0, 0, none, 0, 0, none, 0, 0, [], []⟩ 0 w (Lib.hid rfl) (Lib.hid rfl) (Lib.hid rfl)).mono ?_
  rintro e w' ⟨he, hb⟩
  refine ⟨?_, hb⟩
  rw [he]
  have h1 : ((5000 : Int) - Seq.step 1001 (-1)) % 4294967296 = 4000 := by unfold Seq.step; omega
  have h2 : Seq.step 5000 1 = 5001 := by unfold Seq.step; omega
  show Ending.returned (.tuple #[.agg #[.int .u32 (((5000 : Int) - Seq.step 1001 (-1)) % 4294967296), .int .u32 0], .agg #[.int .i64 0, .int .i64 0, .int .u32 101, .int .u32 (Seq.step 5000 1), .int .i64 16, .int .i64 0, .int .i64 0, .slice none 0 0, .slice none 0 0], .int .i64 0]) = _
  rw [h1, h2]
theorem third_ok (w : World) : Tcp.T.ok w ⟨0, 0, 0, 1011, 16, 0, 0, none, 0, 0, none, 0, 0, [], []⟩ :=
  ⟨(by show (0 : Int) ≤ 0 ∧ (0 : Int) ≤ 4294967295; omega), (by show (0 : Int) ≤ 1011 ∧ (1011 : Int) ≤ 4294967295; omega), (by show (-9223372036854775808 : Int) ≤ 16 ∧ (16 : Int) ≤ 9223372036854775807; omega), (by show (-9223372036854775808 : Int) ≤ 0 ∧ (0 : Int) ≤ 9223372036854775807; omega),
    ⟨rfl, (fun o ho => by cases ho), fun h => absurd h (Nat.lt_irrefl 0)⟩, Nat.le_refl _, (by show (0 : Nat) ≤ _; omega), Rd.nil_ _, (fun x hx => by cases hx), Nat.le_refl _, (by show (0 : Nat) ≤ _; omega)⟩
theorem server_third (w : World) : Calls Try.prog 8 #[.agg #[.int .i64 0, .int .i64 0, .int .u32 0, .int .u32 1011, .int .i64 16, .int .i64 0, .int .i64 0, .slice none 0 0, .slice none 0 0], .agg #[.int .u32 4000, .int .u32 0]] w fun e w' => ∃ u : Tcp.T, e = .returned (.agg #[.int .i64 u.sp, .int .i64 u.dp, .int .u32 u.sq, .int .u32 u.ak, .int .i64 u.fl, .int .i64 u.wi, .int .i64 u.ur, .slice u.Ao u.no u.co, .slice u.Ab u.nb u.cb]) ∧ u.ak = 5011 ∧ Below w.heap.size w w' := by
  refine (ptos_spec ⟨0, 0, 0, 1011, 16, 0, 0, none, 0, 0, none, 0, 0, [], []⟩ 4000 0 w (third_ok w) ⟨(by show (0 : Nat) ≤ 60; omega), (fun o ho => by cases ho), (by show (0 : Nat) ≤ 3000; omega)⟩ (by omega) (by omega) (by omega) (by omega)).mono ?_
  rintro e w' ⟨hb, u, he, _, hc⟩
  refine ⟨u, he, ?_, hb⟩
  have : u.con.ak = (Prox.toS 4000 0 (Tcp.T.con ⟨0, 0, 0, 1011, 16, 0, 0, none, 0, 0, none, 0, 0, [], []⟩)).ak := by rw [hc]
  exact this.trans (by rfl)
set_option maxHeartbeats 8000000 in
theorem prox_awake (w : World) : Calls Try.prog 5 #[] w fun e w' => e = .returned (.bool true) ∧ Below w.heap.size w w' := by
  have HL := Lib.hid learn_third
  have HV := Lib.hid server_third
  go_enter Try.func5, Try.ntmps5
  go_upto_region 2 with (first | (refine wpList_stB 26 _ _ (by with_reducible rfl) rfl (by rfl) _ (by rfl) (by first | assumption | exact BlkV.new _ _ _ | exact (BlkV.new_at _ _ _ (by simp)).only hO (by omega)) (by rfl) (tcp_size (by rfl)) (by rfl) ?_; intro wM BM hM))
  have hb1 := hM.bel (by omega) (bel_a (Below.refl w.heap.size w) _)
  have hs1 := hb1.size
  clear hM
  go_wp2_with (refine wpList_ldB 26 _ _ (by with_reducible rfl) rfl (by rfl) BM Try.underlying26 rfl (tcp_size (by rfl)) ?_)
  refine (HL.out wM).mono ?_
  rintro e w1 ⟨rfl, hb⟩
  have hb2 := bel_then hb1 hb
  have hs2 := hb2.size
  clear BM hb HL hb1
  go_upto_region 3 with (first | (refine wpList_stB 28 _ _ (by with_reducible rfl) rfl (by rfl) _ (by rfl) (by first | assumption | exact BlkV.new _ _ _ | exact (BlkV.new _ _ _).alloc _) (by rfl) (shift_size (by rfl)) (by rfl) ?_; intro wN BN hO) | (refine wpList_stB 26 _ _ (by with_reducible rfl) rfl (by rfl) _ (by rfl) (by first | assumption | exact BlkV.new _ _ _ | exact (BlkV.new_at _ _ _ (by simp)).only hO (by omega)) (by rfl) (tcp_size (by rfl)) (by rfl) ?_; intro wM BM hM))
  have BS := (BN.only hM (by omega))
  have hbM := hM.bel (by omega) (hO.bel (by omega) (bel_a (bel_a hb2 _) _))
  have hsM := hbM.size
  have hsN : w1.heap.size + 2 = wM.heap.size := by rw [hM.size, hO.size]; simp
  clear hM hO BN
  go_wp2_with (refine wpList_ldB 28 _ _ (by with_reducible rfl) rfl (by rfl) BS Try.underlying28 rfl (shift_size (by rfl)) ?_)
  refine (HV.out wM).mono ?_
  rintro e w2 ⟨u, rfl, hu, hb⟩
  have BS2 := BS.below hb
  have BA2 := BM.below hb
  have hb3 := bel_then hbM hb
  have hs3 := hb.size
  have HU := Lib.hid hu
  clear BS BM hb hbM HV hu
  go_upto_region 4 with (first | (refine wpList_stB 26 _ _ (by with_reducible rfl) rfl (by rfl) _ (by rfl) (by first | assumption | exact BlkV.new _ _ _ | exact (BlkV.new_at _ _ _ (by simp)).only hO (by omega)) (by rfl) (tcp_size (by rfl)) (by rfl) ?_; intro wM BM hM))
  have s0 := ((BS2.alloc (.cells #[.int .i64 0, .int .i64 0, .int .u32 0, .int .u32 0, .int .i64 0, .int .i64 0, .int .i64 0, .slice none 0 0, .slice none 0 0] 26)).only hM (by omega)).cell (i := 0) rfl
  have r2 := ((BA2.alloc (.cells #[.int .i64 0, .int .i64 0, .int .u32 0, .int .u32 0, .int .i64 0, .int .i64 0, .int .i64 0, .slice none 0 0, .slice none 0 0] 26)).only hM (by omega)).cell (i := 2) rfl
  have r3 := ((BA2.alloc (.cells #[.int .i64 0, .int .i64 0, .int .u32 0, .int .u32 0, .int .i64 0, .int .i64 0, .int .i64 0, .slice none 0 0, .slice none 0 0] 26)).only hM (by omega)).cell (i := 3) rfl
  have q3 := BM.cell (i := 3) rfl
  rw [HU.out] at q3
  have hb4 := hM.bel (by omega) (bel_a hb3 _)
  clear hM BM BS2 BA2 hb3
  go_wp2_with fail
  go_ret
  exact ⟨rfl, hb4⟩
end Go.Proofs.Ytklefgcackchiaa
