/- The walk of the proxy laws' awake. The walk of the reference's Same. The walk of casemateref04.Same, at two segments that say the same. -/
import Derived.Test.YtpidpbjbgjkaaaaDoorProxLearn
import Derived.Test.YtpidpbjbgjkaaaaDoorChecked
import Derived.Test.YtpidpbjbgjkaaaaDoorOwn
import Derived.Deep.QuietTactic
import Derived.BigQuiet
import Derived.Test.YtpidpbjbgjkaaaaDoorJ4
import Derived.Test.YtpidpbjbgjkaaaaDoorQuietBel
namespace Go.Proofs.YtpidpbjbgjkaaaaDoor
open Go.RowKit
set_option maxRecDepth 8000
set_option linter.unusedVariables false
set_option linter.unusedSimpArgs false
theorem learn_third (w : World) : Calls Tryd.prog 15 #[.agg #[.int .i64 0, .int .i64 0, .int .u32 101, .int .u32 1001, .int .i64 16, .int .i64 0, .int .i64 0, .slice none 0 0, .slice none 0 0], .agg #[.int .i64 0, .int .i64 0, .int .u32 5000, .int .u32 101, .int .i64 18, .int .i64 0, .int .i64 0, .slice none 0 0, .slice none 0 0], .int .u32 0] w fun e w' => e = .returned (.tuple #[.agg #[.int .u32 4000, .int .u32 0], .agg #[.int .i64 0, .int .i64 0, .int .u32 101, .int .u32 5001, .int .i64 16, .int .i64 0, .int .i64 0, .slice none 0 0, .slice none 0 0], .int .i64 0]) ∧ Below w.heap.size w w' := by
  refine (plearn_spec ⟨0, 0, 101, 1001, 16, 0, 0, none, 0, 0, none, 0, 0, [], []⟩ ⟨0, 0, 5000, 101, 18, 0, 0, none, 0, 0, none, 0, 0, [], []⟩ 0 w (Lib.hid rfl) (Lib.hid rfl) (Lib.hid rfl)).mono ?_
  rintro e w' ⟨he, hb⟩
  refine ⟨?_, hb⟩
  rw [he]
  have h1 : ((5000 : Int) - Seq.step 1001 (-1)) % 4294967296 = 4000 := by unfold Seq.step; omega
  have h2 : Seq.step 5000 1 = 5001 := by unfold Seq.step; omega
  show Ending.returned (.tuple #[.agg #[.int .u32 (((5000 : Int) - Seq.step 1001 (-1)) % 4294967296), .int .u32 0], .agg #[.int .i64 0, .int .i64 0, .int .u32 101, .int .u32 (Seq.step 5000 1), .int .i64 16, .int .i64 0, .int .i64 0, .slice none 0 0, .slice none 0 0], .int .i64 0]) = _
  rw [h1, h2]
theorem third_ok (w : World) : Tcp.T.ok w ⟨0, 0, 0, 1011, 16, 0, 0, none, 0, 0, none, 0, 0, [], []⟩ :=
  ⟨(by show (0 : Int) ≤ 0 ∧ (0 : Int) ≤ 4294967295; omega), (by show (0 : Int) ≤ 1011 ∧ (1011 : Int) ≤ 4294967295; omega), (by show (-9223372036854775808 : Int) ≤ 16 ∧ (16 : Int) ≤ 9223372036854775807; omega), (by show (-9223372036854775808 : Int) ≤ 0 ∧ (0 : Int) ≤ 9223372036854775807; omega),
    ⟨rfl, (fun o ho => by cases ho), fun h => absurd h (Nat.lt_irrefl 0)⟩, Nat.le_refl _, (by show (0 : Nat) ≤ _; omega), Rd.nil_ _, (fun x hx => by cases hx), Nat.le_refl _, (by show (0 : Nat) ≤ _; omega)⟩
theorem server_third (w : World) : Calls Tryd.prog 17 #[.agg #[.int .i64 0, .int .i64 0, .int .u32 0, .int .u32 1011, .int .i64 16, .int .i64 0, .int .i64 0, .slice none 0 0, .slice none 0 0], .agg #[.int .u32 4000, .int .u32 0]] w fun e w' => ∃ u : Tcp.T, e = .returned (.agg #[.int .i64 u.sp, .int .i64 u.dp, .int .u32 u.sq, .int .u32 u.ak, .int .i64 u.fl, .int .i64 u.wi, .int .i64 u.ur, .slice u.Ao u.no u.co, .slice u.Ab u.nb u.cb]) ∧ u.ak = 5011 ∧ Below w.heap.size w w' := by
  refine (ptos_spec ⟨0, 0, 0, 1011, 16, 0, 0, none, 0, 0, none, 0, 0, [], []⟩ 4000 0 w (third_ok w) ⟨(by show (0 : Nat) ≤ 60; omega), (fun o ho => by cases ho), (by show (0 : Nat) ≤ 3000; omega)⟩ (by omega) (by omega) (by omega) (by omega)).mono ?_
  rintro e w' ⟨hb, u, he, _, hc⟩
  refine ⟨u, he, ?_, hb⟩
  have : u.con.ak = (Prox.toS 4000 0 (Tcp.T.con ⟨0, 0, 0, 1011, 16, 0, 0, none, 0, 0, none, 0, 0, [], []⟩)).ak := by rw [hc]
  exact this.trans (by rfl)
set_option maxHeartbeats 8000000 in
theorem prox_awake (w : World) : Calls Tryd.prog 5 #[] w fun e w' => e = .returned (.bool true) ∧ Below w.heap.size w w' := by
  have HL := Lib.hid learn_third
  have HV := Lib.hid server_third
  go_enter Tryd.func5, Tryd.ntmps5
  go_upto_region 2 with (first | (refine wpList_stB 29 _ _ (by with_reducible rfl) rfl (by rfl) _ (by rfl) (by first | assumption | exact BlkV.new _ _ _ | exact (BlkV.new_at _ _ _ (by simp)).only hO (by omega)) (by rfl) (tcp_size (by rfl)) (by rfl) ?_; intro wM BM hM))
  have hb1 := hM.bel (by omega) (bel_a (Below.refl w.heap.size w) _)
  have hs1 := hb1.size
  clear hM
  go_wp2_with (refine wpList_ldB 29 _ _ (by with_reducible rfl) rfl (by rfl) BM Tryd.underlying29 rfl (tcp_size (by rfl)) ?_)
  refine (HL.out wM).mono ?_
  rintro e w1 ⟨rfl, hb⟩
  have hb2 := bel_then hb1 hb
  have hs2 := hb2.size
  clear BM hb HL hb1
  go_upto_region 3 with (first | (refine wpList_stB 31 _ _ (by with_reducible rfl) rfl (by rfl) _ (by rfl) (by first | assumption | exact BlkV.new _ _ _ | exact (BlkV.new _ _ _).alloc _) (by rfl) (shift_size (by rfl)) (by rfl) ?_; intro wN BN hO) | (refine wpList_stB 29 _ _ (by with_reducible rfl) rfl (by rfl) _ (by rfl) (by first | assumption | exact BlkV.new _ _ _ | exact (BlkV.new_at _ _ _ (by simp)).only hO (by omega)) (by rfl) (tcp_size (by rfl)) (by rfl) ?_; intro wM BM hM))
  have BS := (BN.only hM (by omega))
  have hbM := hM.bel (by omega) (hO.bel (by omega) (bel_a (bel_a hb2 _) _))
  have hsM := hbM.size
  have hsN : w1.heap.size + 2 = wM.heap.size := by rw [hM.size, hO.size]; simp
  clear hM hO BN
  go_wp2_with (refine wpList_ldB 31 _ _ (by with_reducible rfl) rfl (by rfl) BS Tryd.underlying31 rfl (shift_size (by rfl)) ?_)
  refine (HV.out wM).mono ?_
  rintro e w2 ⟨u, rfl, hu, hb⟩
  have BS2 := BS.below hb
  have BA2 := BM.below hb
  have hb3 := bel_then hbM hb
  have hs3 := hb.size
  have HU := Lib.hid hu
  clear BS BM hb hbM HV hu
  go_upto_region 4 with (first | (refine wpList_stB 29 _ _ (by with_reducible rfl) rfl (by rfl) _ (by rfl) (by first | assumption | exact BlkV.new _ _ _ | exact (BlkV.new_at _ _ _ (by simp)).only hO (by omega)) (by rfl) (tcp_size (by rfl)) (by rfl) ?_; intro wM BM hM))
  have s0 := ((BS2.alloc (.cells #[.int .i64 0, .int .i64 0, .int .u32 0, .int .u32 0, .int .i64 0, .int .i64 0, .int .i64 0, .slice none 0 0, .slice none 0 0] 29)).only hM (by omega)).cell (i := 0) rfl
  have r2 := ((BA2.alloc (.cells #[.int .i64 0, .int .i64 0, .int .u32 0, .int .u32 0, .int .i64 0, .int .i64 0, .int .i64 0, .slice none 0 0, .slice none 0 0] 29)).only hM (by omega)).cell (i := 2) rfl
  have r3 := ((BA2.alloc (.cells #[.int .i64 0, .int .i64 0, .int .u32 0, .int .u32 0, .int .i64 0, .int .i64 0, .int .i64 0, .slice none 0 0, .slice none 0 0] 29)).only hM (by omega)).cell (i := 3) rfl
  have q3 := BM.cell (i := 3) rfl
  rw [HU.out] at q3
  have hb4 := hM.bel (by omega) (bel_a hb3 _)
  clear hM BM BS2 BA2 hb3
  go_wp2_with fail
  go_ret
  exact ⟨rfl, hb4⟩
end Go.Proofs.YtpidpbjbgjkaaaaDoor
namespace Go.Proofs.YtpidpbjbgjkaaaaDoor
open Go.RowKit
set_option linter.unusedVariables false
set_option maxHeartbeats 400000 in
theorem ref_same (A B : Option Addr) (n c m d : Nat) (a b : List Int) (w : World) (ha : Rd w 1 A n (bs a)) (hb : Rd w 1 B m (bs b)) (hBa : isB a) (hBb : isB b) (hn : n ≤ 9223372036854775807) :
    Calls Tryd.prog 32 #[.slice A n c, .slice B m d] w fun e w' => e = .returned (.bool (a == b)) ∧ ∃ q, w' = w.drewN q := by
  have hla := ha.blen
  have hlb := hb.blen
  by_cases hnm : n = m
  · subst hnm
    go_enter Tryd.func32, Tryd.ntmps32
    go_wp2
    go_loopw [5] (fun i wr => ∃ k q : Nat, k ≤ n ∧ i = .int .i64 k ∧ Hid (a.take k = b.take k) ∧ wr = w.drewN q) (fun i _ => n - (intOf i).toNat)
    case atStart => exact ⟨0, 0, by omega, rfl, rfl, rfl⟩
    case round =>
      obtain ⟨k, q, hk, rfl, heq, rfl⟩ := hrel
      by_cases hlt : k < n
      · obtain ⟨b1, o1, x, rfl, hl1, hc1, hx, hxm⟩ := Rd.int (kd := .u8) ha (k := k) (by omega)
        obtain ⟨b2, o2, y, rfl, hl2, hc2, hy, hym⟩ := Rd.int (kd := .u8) hb (k := k) (by omega)
        have hlt' : (k : Int) < (n : Int) := by omega
        by_cases hxy : x = y
        · subst hxy
          have ht : a.take (k + 1) = b.take (k + 1) := by
            obtain ⟨ka, rfl⟩ := List.getElem?_eq_some_iff.1 hx.out
            obtain ⟨kb, he⟩ := List.getElem?_eq_some_iff.1 hy.out
            rw [List.take_succ_eq_append_getElem ka, List.take_succ_eq_append_getElem kb, heq.out, he]
          have hne : (x != x) = false := by simp
          have HT := Lib.hid ht
          clear ht ha hb hx hy hxm hym heq hla hlb
          go_wp2
          go_quiet (fail)
          go_wp2
          go_roundw
          case rel => exact ⟨k + 1, q + nq, by omega, by go_num, HT.out, rfl⟩
          case measure => simp [intOf]; omega
        · have hne : (x != y) = true := by rw [bne_iff_ne]; exact hxy
          have hr : (a == b) = false := by
            rw [beq_eq_false_iff_ne]; intro h; subst h
            have h1 := hx.out; have h2 := hy.out
            rw [h1] at h2; injection h2 with h2; exact hxy h2
          have HR := Lib.hid hr
          clear hr ha hb hx hy hxm hym heq hla hlb hxy
          go_wp2
          go_quiet (fail)
          go_wp2
          go_ret
          exact ⟨ret_bool HR.out.symm, q + nq, World.drewN_drewN _ _ _⟩
      · have hr : (a == b) = true := by
          rw [beq_iff_eq]
          have h1 := heq.out
          rw [List.take_of_length_le (by omega), List.take_of_length_le (by omega)] at h1
          exact h1
        have HR := Lib.hid hr
        clear hr ha hb heq hla hlb
        go_wp2
        go_ret
        exact ⟨ret_bool HR.out.symm, q, rfl⟩
  · have hne : ((n : Int) != (m : Int)) = true := by rw [bne_iff_ne]; omega
    have hr : (a == b) = false := by rw [beq_eq_false_iff_ne]; intro h; rw [h] at hla; omega
    have HR := Lib.hid hr
    clear hr hla hlb hnm
    go_enter Tryd.func32, Tryd.ntmps32
    go_wp2
    go_ret
    exact ⟨ret_bool HR.out.symm, 0, rfl⟩
end Go.Proofs.YtpidpbjbgjkaaaaDoor
namespace Go.Proofs.YtpidpbjbgjkaaaaDoor
open Go.RowKit
set_option maxRecDepth 8000
set_option linter.unusedVariables false
set_option linter.unusedSimpArgs false
theorem refsame_bel (A B : Option Addr) (n c m d : Nat) (l : List Int) (w : World) (ha : Rd w 1 A n (bs l)) (hb : Rd w 1 B m (bs l)) (hB : isB l) (hn : n ≤ 9223372036854775807) :
    Calls Tryd.prog 32 #[.slice A n c, .slice B m d] w fun e w' => e = .returned (.bool true) ∧ Below w.heap.size w w' := by
  have h := ref_same A B n c m d l l w ha hb hB hB hn
  rw [show (l == l) = true by simp] at h
  exact h.mono fun _ _ ⟨he, q, hq⟩ => ⟨he, by rw [hq]; exact below_drewN (Below.refl _ _) _⟩
set_option maxHeartbeats 8000000 in
theorem segsame0 (t u : Tcp.T) (w : World) (ht : t.ok w) (hu : u.ok w) (ho : t.opts.map Tcp.Opt.con = u.opts.map Tcp.Opt.con) (hb : t.body = u.body) :
    Calls Tryd.prog 12 #[.agg #[.int .i64 t.sp, .int .i64 t.dp, .int .u32 t.sq, .int .u32 t.ak, .int .i64 t.fl, .int .i64 t.wi, .int .i64 t.ur, .slice t.Ao t.no t.co, .slice t.Ab t.nb t.cb], .agg #[.int .i64 t.sp, .int .i64 t.dp, .int .u32 t.sq, .int .u32 t.ak, .int .i64 t.fl, .int .i64 t.wi, .int .i64 t.ur, .slice u.Ao t.no u.co, .slice u.Ab u.nb u.cb]] w fun e w' => e = .returned (.bool true) ∧ Below w.heap.size w w' := by
  obtain ⟨W, hW⟩ : ∃ W, W = (w.alloc (.cells #[.int .i64 t.sp, .int .i64 t.dp, .int .u32 t.sq, .int .u32 t.ak, .int .i64 t.fl, .int .i64 t.wi, .int .i64 t.ur, .slice t.Ao t.no t.co, .slice t.Ab t.nb t.cb] 29)).alloc (.cells #[.int .i64 t.sp, .int .i64 t.dp, .int .u32 t.sq, .int .u32 t.ak, .int .i64 t.fl, .int .i64 t.wi, .int .i64 t.ur, .slice u.Ao t.no u.co, .slice u.Ab u.nb u.cb] 29) := ⟨_, rfl⟩
  have hbW : Below w.heap.size w W := by rw [hW]; exact ((Below.refl _ _).alloc (Nat.le_refl _) _).alloc (by simp) _
  have hWs : w.heap.size + 1 < W.heap.size := by rw [hW]; simp
  have B0 : BlkV W w.heap.size 29 [.int .i64 t.sp, .int .i64 t.dp, .int .u32 t.sq, .int .u32 t.ak, .int .i64 t.fl, .int .i64 t.wi, .int .i64 t.ur, .slice t.Ao t.no t.co, .slice t.Ab t.nb t.cb] := by rw [hW]; exact (BlkV.new w _ _).alloc _
  have B1 : BlkV W (w.heap.size + 1) 29 [.int .i64 t.sp, .int .i64 t.dp, .int .u32 t.sq, .int .u32 t.ak, .int .i64 t.fl, .int .i64 t.wi, .int .i64 t.ur, .slice u.Ao t.no u.co, .slice u.Ab u.nb u.cb] := by rw [hW]; exact BlkV.new_at (w.alloc (.cells #[.int .i64 t.sp, .int .i64 t.dp, .int .u32 t.sq, .int .u32 t.ak, .int .i64 t.fl, .int .i64 t.wi, .int .i64 t.ur, .slice t.Ao t.no t.co, .slice t.Ab t.nb t.cb] 29)) _ _ (by simp)
  have hmo : u.no = t.no := by
    have h := congrArg List.length ho
    rw [List.length_map, List.length_map, ht.opts.1, hu.opts.1] at h
    exact h.symm
  have H1 := Lib.hid (ht.opts.below hbW)
  have H2 : Hid (Tcp.OptsRd W u.Ao t.no u.opts) := Lib.hid (by rw [← hmo]; exact hu.opts.below hbW)
  have HE := Lib.hid ho
  have HS := Lib.hid (refsame_bel t.Ab u.Ab t.nb t.cb u.nb u.cb t.body W (ht.body.below hbW) (by rw [hb]; exact hu.body.below hbW) ht.isb (by have := ht.nbc; have := ht.cbc; omega))
  have hn63 : (t.no : Int) ≤ 9223372036854775807 := by have := ht.noc; have := ht.coc; omega
  have HC : Hid (∀ w' : World, Below W.heap.size W w' → w'.cell? ⟨w.heap.size, 7, none⟩ = some (.slice t.Ao t.no t.co) ∧ w'.cell? ⟨w.heap.size + 1, 7, none⟩ = some (.slice u.Ao t.no u.co)) := Lib.hid fun w' hb => ⟨(B0.below hb).cell rfl, (B1.below hb).cell rfl⟩
  obtain ⟨c0, c1, c2, c3, c4, c5, c6, c7, c8⟩ := cells9' B0
  obtain ⟨d0, d1, d2, d3, d4, d5, d6, d7, d8⟩ := cells9' B1
  clear B0 B1 hmo ht hu ho hb
  go_enter Tryd.func12, Tryd.ntmps12
  go_upto_region 1 with (fail)
  rw [← hW]
  clear hW
  go_wp2_with fail
  refine HS.out.mono ?_
  rintro e w1 ⟨rfl, hb1⟩
  have HB1 := Lib.hid (bel_then hbW hb1)
  have HB1' := Lib.hid hb1
  clear c0 c1 c2 c3 c4 c5 c6 c7 c8 d0 d1 d2 d3 d4 d5 d6 d7 d8 HS hb1 hbW
  go_wp2_with fail
  go_loopg [5] t.no (fun g s5 wx => ∃ i : Nat, i + g = t.no ∧ s5 = .int .i64 i ∧ Below w1.heap.size w1 wx)
  case atStart => exact ⟨0, by omega, rfl, Below.refl _ _⟩
  case round =>
    obtain ⟨i, hig, rfl, hbx⟩ := hrel
    have hbX := bel_then HB1'.out hbx
    obtain ⟨k7, k8⟩ := HC.out wr hbX
    cases gk with
    | zero =>
      have hiz : ¬ (i : Int) < (t.no : Int) := by omega
      go_wp2_with fail
      go_ret
      exact ⟨rfl, bel_then HB1.out hbx⟩
    | succ g2 =>
      have hi : i < t.no := by omega
      have hiz : (i : Int) < (t.no : Int) := by omega
      have hO1 := H1.out.below hbX
      have hO2 := H2.out.below hbX
      obtain ⟨o, ho⟩ : ∃ o, t.opts[i]? = some o := ⟨_, List.getElem?_eq_getElem (by rw [hO1.1]; omega)⟩
      obtain ⟨p, hp⟩ : ∃ p, u.opts[i]? = some p := ⟨_, List.getElem?_eq_getElem (by rw [hO2.1]; omega)⟩
      have hop : o.con = p.con := by
        have h := congrArg (fun l : List Prox.O => l[i]?) HE.out
        simp only [List.getElem?_map, ho, hp, Option.map_some, Option.some.injEq] at h
        exact h
      have hok1 := hO1.2.1 o (List.mem_of_getElem? ho)
      have hok2 := hO2.2.1 p (List.mem_of_getElem? hp)
      obtain ⟨b1, f1, hA1, hl1, hc1⟩ := hO1.2.2 (by omega)
      obtain ⟨b2, f2, hA2, hl2, hc2⟩ := hO2.2.2 (by omega)
      obtain ⟨q0, q1⟩ := hc1 i o ho
      obtain ⟨p0, p1⟩ := hc2 i p hp
      obtain ⟨ok, oA, on, oc, od⟩ := o
      obtain ⟨pk, pA, pn, pc, pd⟩ := p
      simp only [Tcp.Opt.con, Prod.mk.injEq] at hop
      obtain ⟨rfl, rfl⟩ := hop
      simp only at q0 q1 p0 p1
      have R1 : Hid (∀ w' : World, Below wr.heap.size wr w' → Calls Tryd.prog 32 #[.slice oA on oc, .slice pA pn pc] w' fun e w'' => e = .returned (.bool true) ∧ Below w'.heap.size w' w'') :=
        Lib.hid fun w' hb => refsame_bel oA pA on oc pn pc od w' (hok1.1.below hb) (hok2.1.below hb) hok1.2.1 (by have := hok1.2.2; simp only at this; omega)
      have a7 : ∀ p : BelBy wr, p.v.cell? ⟨w.heap.size, 7, none⟩ = some (.slice (some ⟨b1, f1, none⟩) t.no t.co) := fun p => by rw [← hA1]; exact (HC.out p.v (bel_then hbX p.h)).1
      have a8 : ∀ p : BelBy wr, p.v.cell? ⟨w.heap.size + 1, 7, none⟩ = some (.slice (some ⟨b2, f2, none⟩) t.no u.co) := fun p => by rw [← hA2]; exact (HC.out p.v (bel_then hbX p.h)).2
      have a0 : ∀ p : BelBy wr, p.v.cell? ⟨b1, f1 + i * 2, none⟩ = some (.int .i64 ok) := fun p => cell_bel hl1 q0 p
      have a1 : ∀ p : BelBy wr, p.v.cell? ⟨b1, f1 + i * 2 + 1, none⟩ = some (.slice oA on oc) := fun p => cell_bel hl1 q1 p
      have a2 : ∀ p : BelBy wr, p.v.cell? ⟨b2, f2 + i * 2, none⟩ = some (.int .i64 ok) := fun p => cell_bel hl2 p0 p
      have a3 : ∀ p : BelBy wr, p.v.cell? ⟨b2, f2 + i * 2 + 1, none⟩ = some (.slice pA pn pc) := fun p => cell_bel hl2 p1 p
      clear hO1 hO2 hok1 hok2 hc1 hc2 ho hp hbX q0 q1 p0 p1
      go_upto_region 6 with (fail)
      refine wp_region_quiet_bel (by kernel_rfl) (by kernel_rfl) ?_
      repeat (go_big_quiet_step (exact calls_bel (R1.out _ (BelBy.h _))))
      refine wpQuiet_nil ?_
      intro _ hw'
      obtain ⟨⟨wq, hbq⟩, hw''⟩ := hw'
      have hw3 : _ = wq := hw''
      clear hw''
      subst hw3
      have hbe := bel_then hbx hbq
      clear a0 a1 a2 a3 a7 a8 R1 hA1 hA2 k7 k8
      go_wp2_with fail
      go_roundg g2
      case measure => omega
      case rel => exact ⟨i + 1, by omega, by go_num, hbe⟩
/-- two segments that say the same are told the same -/
theorem segsame_spec (t u : Tcp.T) (w : World) (ht : t.ok w) (hu : u.ok w) (h : t.con = u.con) :
    Calls Tryd.prog 12 #[.agg #[.int .i64 t.sp, .int .i64 t.dp, .int .u32 t.sq, .int .u32 t.ak, .int .i64 t.fl, .int .i64 t.wi, .int .i64 t.ur, .slice t.Ao t.no t.co, .slice t.Ab t.nb t.cb], .agg #[.int .i64 u.sp, .int .i64 u.dp, .int .u32 u.sq, .int .u32 u.ak, .int .i64 u.fl, .int .i64 u.wi, .int .i64 u.ur, .slice u.Ao u.no u.co, .slice u.Ab u.nb u.cb]] w fun e w' => e = .returned (.bool true) ∧ Below w.heap.size w w' := by
  simp only [Tcp.T.con, Prox.C.mk.injEq] at h
  obtain ⟨e1, e2, e3, e4, e5, e6, e7, e8, e9⟩ := h
  have hmo : u.no = t.no := by
    have h := congrArg List.length e8
    rw [List.length_map, List.length_map, ht.opts.1, hu.opts.1] at h
    exact h.symm
  rw [← e1, ← e2, ← e3, ← e4, ← e5, ← e6, ← e7, hmo]
  exact segsame0 t u w ht hu e8 e9
end Go.Proofs.YtpidpbjbgjkaaaaDoor
