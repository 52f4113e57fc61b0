/- The walk of tcp.Size. What ProxyKnows asks: who answers with the number that was told is known; what is answered, asked and told may be put. The walk of the proxy laws' awake. -/
import Derived.Test.YtpidpbjbgjkaaaaDoorJ1
import Derived.Test.YtpidpbjbgjkaaaaDoorChecked
import Derived.Test.YtpidpbjbgjkaaaaDoorOwn
import Derived.Test.YtpidpbjbgjkaaaaDoorJ6
import Derived.Test.YtpidpbjbgjkaaaaDoorJ7
import Derived.Test.YtpidpbjbgjkaaaaDoorTcpPut0
import Derived.Test.YtpidpbjbgjkaaaaDoorProxLearn
namespace Go.Proofs.YtpidpbjbgjkaaaaDoor
open Go.RowKit
set_option linter.unusedVariables false
def State.part (n : Nat) (fl : Int) (k : Nat) : Int := if k = 0 then (n : Int) else if k = 1 then (n : Int) + State.bi (State.has fl 2) else State.size n fl
set_option maxHeartbeats 1000000 in
theorem size_at (sp dp sq ak fl wi ur : Int) (Ao : Option Addr) (no co : Nat) (Ab : Option Addr) (nb cb : Nat) (w : World) (hn : nb ≤ 4294967295) :
    Calls Tryd.prog 24 #[.agg #[.int .i64 sp, .int .i64 dp, .int .u32 sq, .int .u32 ak, .int .i64 fl, .int .i64 wi, .int .i64 ur, .slice Ao no co, .slice Ab nb cb]] w fun e w' => e = .returned (.int .i64 (State.size nb fl)) ∧ (w.alloc (.cells #[.int .i64 sp, .int .i64 dp, .int .u32 sq, .int .u32 ak, .int .i64 fl, .int .i64 wi, .int .i64 ur, .slice Ao no co, .slice Ab nb cb] 29)).alloc (.cells #[.int .i64 2, .int .i64 1] 3) = w' := by
  obtain ⟨W, hW⟩ : ∃ W, W = (w.alloc (.cells #[.int .i64 sp, .int .i64 dp, .int .u32 sq, .int .u32 ak, .int .i64 fl, .int .i64 wi, .int .i64 ur, .slice Ao no co, .slice Ab nb cb] 29)).alloc (.cells #[.int .i64 2, .int .i64 1] 3) := ⟨_, rfl⟩
  have HW := Lib.hid hW
  have c4 : W.cell? ⟨w.heap.size, 4, none⟩ = some (.int .i64 fl) := by
    rw [hW]
    have h1 : (w.alloc (.cells #[.int .i64 sp, .int .i64 dp, .int .u32 sq, .int .u32 ak, .int .i64 fl, .int .i64 wi, .int .i64 ur, .slice Ao no co, .slice Ab nb cb] 29)).cell? ⟨w.heap.size, 4, none⟩ = some (.int .i64 fl) := cell_of_row _ _ 4 _ _ (0, 0) (heap_alloc_new w _)
    exact (((Below.refl _ (w.alloc (.cells #[.int .i64 sp, .int .i64 dp, .int .u32 sq, .int .u32 ak, .int .i64 fl, .int .i64 wi, .int .i64 ur, .slice Ao no co, .slice Ab nb cb] 29))).alloc (Nat.le_refl _) (.cells #[.int .i64 2, .int .i64 1] 3)).cell (p := ⟨w.heap.size, 4, none⟩) (by simp)).trans h1
  have hl : ∀ i, W.cell? ⟨w.heap.size + 1, i, none⟩ = #[Value.int .i64 2, Value.int .i64 1][i]? := by
    intro i
    rw [hW]
    have := cell_of_row _ _ i _ _ (0, 0) (heap_alloc_new (w.alloc (.cells #[.int .i64 sp, .int .i64 dp, .int .u32 sq, .int .u32 ak, .int .i64 fl, .int .i64 wi, .int .i64 ur, .slice Ao no co, .slice Ab nb cb] 29)) (.cells #[.int .i64 2, .int .i64 1] 3))
    rw [show (w.alloc (.cells #[.int .i64 sp, .int .i64 dp, .int .u32 sq, .int .u32 ak, .int .i64 fl, .int .i64 wi, .int .i64 ur, .slice Ao no co, .slice Ab nb cb] 29)).heap.size = w.heap.size + 1 by simp] at this
    exact this
  have l0 : W.cell? ⟨w.heap.size + 1, 0, none⟩ = some (.int .i64 2) := hl 0
  have l1 : W.cell? ⟨w.heap.size + 1, 1, none⟩ = some (.int .i64 1) := hl 1
  clear hl
  go_enter Tryd.func24, Tryd.ntmps24
  go_wp2_with fail
  rw [← hW]
  clear hW
  go_loop [3, 5, 11] (fun n _ i => ∃ k : Nat, k ≤ 2 ∧ i = .int .i64 k ∧ n = .int .i64 (State.part nb fl k)) (fun _ _ i => 2 - (intOf i).toNat)
  case atStart => exact ⟨0, by omega, rfl, rfl⟩
  case round =>
    obtain ⟨k, hk, rfl, rfl⟩ := hrel
    rcases (show k = 0 ∨ k = 1 ∨ k = 2 by omega) with rfl | rfl | rfl
    · have e0 : State.part nb fl 0 = (nb : Int) := rfl
      have e1 : State.part nb fl 1 = (nb : Int) + State.bi (State.has fl 2) := rfl
      rw [e0]
      cases hb : State.has fl 2
      all_goals
        rw [hb] at e1
        unfold State.has at hb
        have E1 := Lib.hid e1
        clear e0 e1
        go_wp2
        go_round
        case rel => exact ⟨1, by omega, by go_num, by rw [E1.out]; simp [State.bi]⟩
        case measure => simp [intOf]
    · have e0 : State.part nb fl 1 = (nb : Int) + State.bi (State.has fl 2) := rfl
      have e1 : State.part nb fl 2 = (nb : Int) + State.bi (State.has fl 2) + State.bi (State.has fl 1) := rfl
      have hbd : 0 ≤ State.bi (State.has fl 2) ∧ State.bi (State.has fl 2) ≤ 1 := by unfold State.bi; split <;> omega
      rw [e0]
      generalize State.bi (State.has fl 2) = v at e1 hbd
      cases hb : State.has fl 1
      all_goals
        rw [hb] at e1
        unfold State.has at hb
        have E1 := Lib.hid e1
        clear e0 e1
        go_wp2
        go_round
        case rel => exact ⟨2, by omega, by go_num, by rw [E1.out]; simp [State.bi]⟩
        case measure => simp [intOf]
    · go_wp2
      go_ret
      exact ⟨rfl, HW.out.symm⟩
theorem size_spec (sp dp sq ak fl wi ur : Int) (Ao : Option Addr) (no co : Nat) (Ab : Option Addr) (nb cb : Nat) (w : World) (hn : nb ≤ 4294967295) :
    Calls Tryd.prog 24 #[.agg #[.int .i64 sp, .int .i64 dp, .int .u32 sq, .int .u32 ak, .int .i64 fl, .int .i64 wi, .int .i64 ur, .slice Ao no co, .slice Ab nb cb]] w fun e w' => e = .returned (.int .i64 (State.size nb fl)) ∧ Below w.heap.size w w' :=
  (size_at sp dp sq ak fl wi ur Ao no co Ab nb cb w hn).mono fun _ _ ⟨h, h'⟩ => ⟨h, h' ▸ ((Below.refl _ _).alloc (Nat.le_refl _) _).alloc (by simp) _⟩
end Go.Proofs.YtpidpbjbgjkaaaaDoor
namespace Go.Proofs.YtpidpbjbgjkaaaaDoor
open Go.RowKit
set_option maxRecDepth 8000
set_option linter.unusedVariables false
set_option linter.unusedSimpArgs false
theorem put_seg (u : Tcp.T) (w : World) (hu : u.ok w) (hs : u.slim) (hsp : 0 ≤ u.sp ∧ u.sp ≤ 65535) (hdp : 0 ≤ u.dp ∧ u.dp ≤ 65535) (hwi : 0 ≤ u.wi ∧ u.wi ≤ 65535) (hur : 0 ≤ u.ur ∧ u.ur ≤ 65535) (hfl : 0 ≤ u.fl ∧ u.fl ≤ 255) :
    Calls Tryd.prog 23 #[.int .u32 1, .int .u32 2, .agg #[.int .i64 u.sp, .int .i64 u.dp, .int .u32 u.sq, .int .u32 u.ak, .int .i64 u.fl, .int .i64 u.wi, .int .i64 u.ur, .slice u.Ao u.no u.co, .slice u.Ab u.nb u.cb]] w fun e w' => (∃ (v : Value), e = .returned (.tuple #[v, .int .i64 0])) ∧ Below w.heap.size w w' := by
  obtain ⟨h, h5, h6, h7⟩ := hs
  have ho := hu.opts
  clear hu
  obtain ⟨sp, dp, sq, ak, fl, wi, ur, Ao, no, co, Ab, nb, cb, opts, body⟩ := u
  simp only at *
  subst h5 h6 h7
  rcases h with ⟨h1, h2, h3, h4⟩ | ⟨q, m, h1, h2, h3, h4⟩
  · subst h1 h2 h3 h4
    exact tcp_put0 ⟨sp, dp, sq, ak, fl, wi, ur, none, 0, 0, none, 0, 0, [], body⟩ w hsp.1 hsp.2 hdp.1 hdp.2 hwi.1 hwi.2 hur.1 hur.2 hfl.1 hfl.2
  · subst h1 h2 h3 h4
    exact tcp_put1 ⟨sp, dp, sq, ak, fl, wi, ur, some ⟨q + 1, 0, none⟩, 1, 1, none, 0, 0, [Prox.mssO q m], body⟩ w q m ho hsp.1 hsp.2 hdp.1 hdp.2 hwi.1 hwi.2 hur.1 hur.2 hfl.1 hfl.2
/-- the third segment -/
def Tcp.third (t : Tcp.T) (v win : Int) : Tcp.T := ⟨t.sp, t.dp, Seq.step t.sq 1, Seq.step v 1, 16, win, 0, none, 0, 0, none, 0, 0, [], []⟩
theorem Seq.step_back {a : Int} (h0 : 0 ≤ a) (h1 : a ≤ 4294967295) : Seq.step (Seq.step a 1) (-1) = a := by
  unfold Seq.step
  omega
theorem size_rng (p : Nat) (hp : p ≤ 7) : 0 ≤ Cook.sizeAt p ∧ Cook.sizeAt p ≤ 65535 := by
  rcases (show p = 0 ∨ p = 1 ∨ p = 2 ∨ p = 3 ∨ p = 4 ∨ p = 5 ∨ p = 6 ∨ p = 7 by omega) with rfl | rfl | rfl | rfl | rfl | rfl | rfl | rfl <;> exact ⟨by decide, by decide⟩
theorem known_own (A : Option Addr) (n c : Nat) (l : List Int) (x : Cook.Tup) (hx : x.wf) (t : Tcp.T) (v win ep mss : Int) (w : World) (hT : Tabs w) (hR : Rd w 1 A n (bs l)) (hB : isB l) (hn : n ≤ 128) (hsq : 0 ≤ t.sq ∧ t.sq ≤ 4294967295) (hm : Cook.may x ep = true) (hv : v = Cook.one l x t.sq ep (Cook.place mss)) :
    Calls Tryd.prog 10 #[.slice (some ⟨w.heap.size, 0, none⟩) 1 1, .agg #[.int .i64 x.proto, .int .u32 x.src, .int .i64 x.sport, .int .u32 x.dst, .int .i64 x.dport], .agg (Tcp.third t v win).cells.toArray, .int .i64 ep] (w.alloc (.cells #[.slice A n c] 27)) fun e w' => e = .returned (.tuple #[.int .i64 (Cook.sizeAt (Cook.place mss)), .bool true]) ∧ Below w.heap.size w w' := by
  have hb := bel_a (Below.refl w.heap.size w) (.cells #[.slice A n c] 27)
  have hring : Mac.Ring (w.alloc (.cells #[.slice A n c] 27)) (some ⟨w.heap.size, 0, none⟩) 1 [⟨A, n, c, l⟩] := ⟨rfl, rd_one _ _ _, fun k hk => by
    rw [List.mem_singleton] at hk
    subst hk
    exact ⟨hR.below hb, hB, (show n ≤ 4294960000 by omega)⟩⟩
  have hp := Cook.place_le mss
  have hv0 : 0 ≤ v ∧ v ≤ 4294967295 := by
    have h := Cook.one_parts l x t.sq ep (pl := (Cook.place mss : Int)) (by omega) (by omega)
    rw [hv]
    exact ⟨h.1, h.2.1⟩
  have he : 0 ≤ ep := by
    unfold Cook.may at hm
    simp only [Bool.and_eq_true, decide_eq_true_eq] at hm
    exact hm.2.1
  have hk := (Cook.knows (ls := [l]) (t := x) (sq := t.sq) (ep := ep) (pl := Cook.place mss) (l := l) (by simp) (by simp) hp he).1 hm
  have h := pknown_ok (some ⟨w.heap.size, 0, none⟩) 1 1 [⟨A, n, c, l⟩] x hx (Tcp.third t v win) ep _ (hT.below hb) hring (by decide) (show (Go.bits .and .i64 16 23 == 16) = true by decide)
  refine h.mono ?_
  rintro e w' ⟨rfl, hb'⟩
  refine ⟨?_, bel_then hb hb'⟩
  show Ending.returned (.tuple #[.int .i64 (Cook.checkN [l] x (Seq.step (Seq.step t.sq 1) (-1)) ep (Seq.step (Seq.step v 1) (-1))), .bool (Cook.checkB [l] x (Seq.step (Seq.step t.sq 1) (-1)) ep (Seq.step (Seq.step v 1) (-1)))]) = _
  rw [Seq.step_back hsq.1 hsq.2, Seq.step_back hv0.1 hv0.2, hv, hk.1, hk.2]
theorem ans_one (t : Tcp.T) (c : Int) (h0 : 0 ≤ c) (h1 : c ≤ 4294967295) : ∃ (C : Prox.C) (n : Int), (∀ w, Calls Tryd.prog 8 #[.agg #[.int .i64 t.sp, .int .i64 t.dp, .int .u32 t.sq, .int .u32 t.ak, .int .i64 t.fl, .int .i64 t.wi, .int .i64 t.ur, .slice t.Ao t.no t.co, .slice t.Ab t.nb t.cb], .int .u32 c] w (SegR (some C) n w)) ∧ (n = 0 → C = Prox.ansC t.con c) := by
  cases h : (Go.bits .and .i64 t.fl 23 == 2)
  · exact ⟨_, _, fun w => pans_no t c w h, fun h => absurd h (by decide)⟩
  · exact ⟨_, _, fun w => pans_ok t c w h0 h1 h, fun _ => rfl⟩
theorem make_one (A : Option Addr) (n c : Nat) (l : List Int) (x : Cook.Tup) (hx : x.wf) (sq ep mss : Int) (hs0 : 0 ≤ sq) (hs1 : sq ≤ 4294967295) (w : World) (hT : Tabs w) (hR : Rd w 1 A n (bs l)) (hB : isB l) (hn : n ≤ 4294967295) :
    ∃ (v er : Int), (∀ w1, Below w.heap.size w w1 → Calls Tryd.prog 20 #[.slice A n c, .agg #[.int .i64 x.proto, .int .u32 x.src, .int .i64 x.sport, .int .u32 x.dst, .int .i64 x.dport], .int .u32 sq, .int .i64 ep, .int .i64 mss] w1 fun e w' => e = .returned (.tuple #[.int .u32 v, .int .i64 er]) ∧ Below w1.heap.size w1 w') ∧ (0 ≤ v ∧ v ≤ 4294967295) ∧ (er = 0 → Cook.may x ep = true ∧ v = Cook.one l x sq ep (Cook.place mss)) := by
  have hp := Cook.place_le mss
  have h1 := Cook.one_parts l x sq ep (pl := (Cook.place mss : Int)) (by omega) (by omega)
  cases hm : Cook.may x ep
  · refine ⟨0, 1, fun w1 hb => ?_, by omega, fun h => absurd h (by decide)⟩
    have h := cmake_spec A n c l x hx sq ep mss hs0 hs1 w1 (hT.below hb) (hR.below hb) hB hn
    rw [hm] at h
    exact h
  · refine ⟨_, 0, fun w1 hb => ?_, ⟨h1.1, h1.2.1⟩, fun _ => ⟨rfl, rfl⟩⟩
    have h := cmake_spec A n c l x hx sq ep mss hs0 hs1 w1 (hT.below hb) (hR.below hb) hB hn
    rw [hm] at h
    exact h
end Go.Proofs.YtpidpbjbgjkaaaaDoor
namespace Go.Proofs.YtpidpbjbgjkaaaaDoor
open Go.RowKit
set_option maxRecDepth 8000
set_option linter.unusedVariables false
set_option linter.unusedSimpArgs false
theorem learn_third (w : World) : Calls Tryd.prog 15 #[.agg #[.int .i64 0, .int .i64 0, .int .u32 101, .int .u32 1001, .int .i64 16, .int .i64 0, .int .i64 0, .slice none 0 0, .slice none 0 0], .agg #[.int .i64 0, .int .i64 0, .int .u32 5000, .int .u32 101, .int .i64 18, .int .i64 0, .int .i64 0, .slice none 0 0, .slice none 0 0], .int .u32 0] w fun e w' => e = .returned (.tuple #[.agg #[.int .u32 4000, .int .u32 0], .agg #[.int .i64 0, .int .i64 0, .int .u32 101, .int .u32 5001, .int .i64 16, .int .i64 0, .int .i64 0, .slice none 0 0, .slice none 0 0], .int .i64 0]) ∧ Below w.heap.size w w' := by
  refine (plearn_spec ⟨0, 0, 101, 1001, 16, 0, 0, none, 0, 0, none, 0, 0, [], []⟩ ⟨0, 0, 5000, 101, 18, 0, 0, none, 0, 0, none, 0, 0, [], []⟩ 0 w (Lib.hid rfl) (Lib.hid rfl) (Lib.hid rfl)).mono ?_
  rintro e w' ⟨he, hb⟩
  refine ⟨?_, hb⟩
  rw [he]
  have h1 : ((5000 : Int) - Seq.step 1001 (-1)) % 4294967296 = 4000 := by unfold Seq.step; omega
  have h2 : Seq.step 5000 1 = 5001 := by unfold Seq.step; omega
  show Ending.returned (.tuple #[.agg #[.int .u32 (((5000 : Int) - Seq.step 1001 (-1)) % 4294967296), .int .u32 0], .agg #[.int .i64 0, .int .i64 0, .int .u32 101, .int .u32 (Seq.step 5000 1), .int .i64 16, .int .i64 0, .int .i64 0, .slice none 0 0, .slice none 0 0], .int .i64 0]) = _
  rw [h1, h2]
theorem third_ok (w : World) : Tcp.T.ok w ⟨0, 0, 0, 1011, 16, 0, 0, none, 0, 0, none, 0, 0, [], []⟩ :=
  ⟨(by show (0 : Int) ≤ 0 ∧ (0 : Int) ≤ 4294967295; omega), (by show (0 : Int) ≤ 1011 ∧ (1011 : Int) ≤ 4294967295; omega), (by show (-9223372036854775808 : Int) ≤ 16 ∧ (16 : Int) ≤ 9223372036854775807; omega), (by show (-9223372036854775808 : Int) ≤ 0 ∧ (0 : Int) ≤ 9223372036854775807; omega),
    ⟨rfl, (fun o ho => by cases ho), fun h => absurd h (Nat.lt_irrefl 0)⟩, Nat.le_refl _, (by show (0 : Nat) ≤ _; omega), Rd.nil_ _, (fun x hx => by cases hx), Nat.le_refl _, (by show (0 : Nat) ≤ _; omega)⟩
theorem server_third (w : World) : Calls Tryd.prog 17 #[.agg #[.int .i64 0, .int .i64 0, .int .u32 0, .int .u32 1011, .int .i64 16, .int .i64 0, .int .i64 0, .slice none 0 0, .slice none 0 0], .agg #[.int .u32 4000, .int .u32 0]] w fun e w' => ∃ u : Tcp.T, e = .returned (.agg #[.int .i64 u.sp, .int .i64 u.dp, .int .u32 u.sq, .int .u32 u.ak, .int .i64 u.fl, .int .i64 u.wi, .int .i64 u.ur, .slice u.Ao u.no u.co, .slice u.Ab u.nb u.cb]) ∧ u.ak = 5011 ∧ Below w.heap.size w w' := by
  refine (ptos_spec ⟨0, 0, 0, 1011, 16, 0, 0, none, 0, 0, none, 0, 0, [], []⟩ 4000 0 w (third_ok w) ⟨(by show (0 : Nat) ≤ 60; omega), (fun o ho => by cases ho), (by show (0 : Nat) ≤ 3000; omega)⟩ (by omega) (by omega) (by omega) (by omega)).mono ?_
  rintro e w' ⟨hb, u, he, _, hc⟩
  refine ⟨u, he, ?_, hb⟩
  have : u.con.ak = (Prox.toS 4000 0 (Tcp.T.con ⟨0, 0, 0, 1011, 16, 0, 0, none, 0, 0, none, 0, 0, [], []⟩)).ak := by rw [hc]
  exact this.trans (by rfl)
set_option maxHeartbeats 8000000 in
theorem prox_awake (w : World) : Calls Tryd.prog 5 #[] w fun e w' => e = .returned (.bool true) ∧ Below w.heap.size w w' := by
  have HL := Lib.hid learn_third
  have HV := Lib.hid server_third
  go_enter Tryd.func5, Tryd.ntmps5
  go_upto_region 2 with (first | (refine wpList_stB 29 _ _ (by with_reducible rfl) rfl (by rfl) _ (by rfl) (by first | assumption | exact BlkV.new _ _ _ | exact (BlkV.new_at _ _ _ (by simp)).only hO (by omega)) (by rfl) (tcp_size (by rfl)) (by rfl) ?_; intro wM BM hM))
  have hb1 := hM.bel (by omega) (bel_a (Below.refl w.heap.size w) _)
  have hs1 := hb1.size
  clear hM
  go_wp2_with (refine wpList_ldB 29 _ _ (by with_reducible rfl) rfl (by rfl) BM Tryd.underlying29 rfl (tcp_size (by rfl)) ?_)
  refine (HL.out wM).mono ?_
  rintro e w1 ⟨rfl, hb⟩
  have hb2 := bel_then hb1 hb
  have hs2 := hb2.size
  clear BM hb HL hb1
  go_upto_region 3 with (first | (refine wpList_stB 31 _ _ (by with_reducible rfl) rfl (by rfl) _ (by rfl) (by first | assumption | exact BlkV.new _ _ _ | exact (BlkV.new _ _ _).alloc _) (by rfl) (shift_size (by rfl)) (by rfl) ?_; intro wN BN hO) | (refine wpList_stB 29 _ _ (by with_reducible rfl) rfl (by rfl) _ (by rfl) (by first | assumption | exact BlkV.new _ _ _ | exact (BlkV.new_at _ _ _ (by simp)).only hO (by omega)) (by rfl) (tcp_size (by rfl)) (by rfl) ?_; intro wM BM hM))
  have BS := (BN.only hM (by omega))
  have hbM := hM.bel (by omega) (hO.bel (by omega) (bel_a (bel_a hb2 _) _))
  have hsM := hbM.size
  have hsN : w1.heap.size + 2 = wM.heap.size := by rw [hM.size, hO.size]; simp
  clear hM hO BN
  go_wp2_with (refine wpList_ldB 31 _ _ (by with_reducible rfl) rfl (by rfl) BS Tryd.underlying31 rfl (shift_size (by rfl)) ?_)
  refine (HV.out wM).mono ?_
  rintro e w2 ⟨u, rfl, hu, hb⟩
  have BS2 := BS.below hb
  have BA2 := BM.below hb
  have hb3 := bel_then hbM hb
  have hs3 := hb.size
  have HU := Lib.hid hu
  clear BS BM hb hbM HV hu
  go_upto_region 4 with (first | (refine wpList_stB 29 _ _ (by with_reducible rfl) rfl (by rfl) _ (by rfl) (by first | assumption | exact BlkV.new _ _ _ | exact (BlkV.new_at _ _ _ (by simp)).only hO (by omega)) (by rfl) (tcp_size (by rfl)) (by rfl) ?_; intro wM BM hM))
  have s0 := ((BS2.alloc (.cells #[.int .i64 0, .int .i64 0, .int .u32 0, .int .u32 0, .int .i64 0, .int .i64 0, .int .i64 0, .slice none 0 0, .slice none 0 0] 29)).only hM (by omega)).cell (i := 0) rfl
  have r2 := ((BA2.alloc (.cells #[.int .i64 0, .int .i64 0, .int .u32 0, .int .u32 0, .int .i64 0, .int .i64 0, .int .i64 0, .slice none 0 0, .slice none 0 0] 29)).only hM (by omega)).cell (i := 2) rfl
  have r3 := ((BA2.alloc (.cells #[.int .i64 0, .int .i64 0, .int .u32 0, .int .u32 0, .int .i64 0, .int .i64 0, .int .i64 0, .slice none 0 0, .slice none 0 0] 29)).only hM (by omega)).cell (i := 3) rfl
  have q3 := BM.cell (i := 3) rfl
  rw [HU.out] at q3
  have hb4 := hM.bel (by omega) (bel_a hb3 _)
  clear hM BM BS2 BA2 hb3
  go_wp2_with fail
  go_ret
  exact ⟨rfl, hb4⟩
end Go.Proofs.YtpidpbjbgjkaaaaDoor
