/- ProxyKnows' walk (printed by gen_pknows.py). -/
import Derived.Test.YtpidpbjbgjkaaaaDoorJ9
namespace Go.Proofs.YtpidpbjbgjkaaaaDoor
open Go.RowKit
set_option maxRecDepth 8000
set_option linter.unusedVariables false
set_option linter.unusedSimpArgs false
theorem pk_gen {K : Act → World → Prop} {a : Act} {w0 : World} {o : Obj} (h : ∀ x, x = w0.alloc o → K a x) : K a (w0.alloc o) := h _ rfl
theorem pk_gend {K : Act → World → Prop} {a : Act} {w0 : World} {o : Obj} (h : ∀ x, x = (w0.alloc o).drew → K a x) : K a (w0.alloc o).drew := h _ rfl
set_option maxHeartbeats 32000000 in
theorem proxyknows_walk (A : Option Addr) (n c : Nat) (l : List Int) (x : Cook.Tup) (hx : x.wf) (t : Tcp.T) (ep mss win sv : Int) (hv0 : 0 ≤ sv) (hv1 : sv ≤ 4294967295) (w : World) (hT : Tabs w) (hR : Rd w 1 A n (bs l)) (hB : isB l) (ht : t.ok w) :
    Calls Tryd.prog 4 #[.slice A n c, .agg #[.int .i64 x.proto, .int .u32 x.src, .int .i64 x.sport, .int .u32 x.dst, .int .i64 x.dport], .agg #[.int .i64 t.sp, .int .i64 t.dp, .int .u32 t.sq, .int .u32 t.ak, .int .i64 t.fl, .int .i64 t.wi, .int .i64 t.ur, .slice t.Ao t.no t.co, .slice t.Ab t.nb t.cb], .int .i64 ep, .int .i64 mss, .int .i64 win, .int .u32 sv] w fun e w' => e = .returned (.bool true) ∧ Below w.heap.size w w' := by
  obtain ⟨W, hW⟩ : ∃ W, W = (w.alloc (.cells #[.int .i64 x.proto, .int .u32 x.src, .int .i64 x.sport, .int .u32 x.dst, .int .i64 x.dport] 25)).alloc (.cells #[.int .i64 t.sp, .int .i64 t.dp, .int .u32 t.sq, .int .u32 t.ak, .int .i64 t.fl, .int .i64 t.wi, .int .i64 t.ur, .slice t.Ao t.no t.co, .slice t.Ab t.nb t.cb] 29) := ⟨_, rfl⟩
  have hbW : Below w.heap.size w W := by rw [hW]; exact ((Below.refl _ _).alloc (Nat.le_refl _) _).alloc (by simp) _
  have hWs : w.heap.size + 1 < W.heap.size := by rw [hW]; simp
  have BX : BlkV W w.heap.size 25 [.int .i64 x.proto, .int .u32 x.src, .int .i64 x.sport, .int .u32 x.dst, .int .i64 x.dport] := by rw [hW]; exact (BlkV.new w _ _).alloc _
  have BT : BlkV W (w.heap.size + 1) 29 [.int .i64 t.sp, .int .i64 t.dp, .int .u32 t.sq, .int .u32 t.ak, .int .i64 t.fl, .int .i64 t.wi, .int .i64 t.ur, .slice t.Ao t.no t.co, .slice t.Ab t.nb t.cb] := by rw [hW]; exact BlkV.new_at (w.alloc (.cells #[.int .i64 x.proto, .int .u32 x.src, .int .i64 x.sport, .int .u32 x.dst, .int .i64 x.dport] 25)) _ _ (by simp)
  have KX := Lib.hid (tup_c5 W x w.heap.size BX)
  have HAW := Lib.hid (prox_awake W)
  have HST := Lib.hid (fun (w1 : World) (hb : Below W.heap.size W w1) => pshort_spec t w1 ((ht.below hbW).below hb))
  have HRd := Lib.hid (hR.below hbW)
  have HTb := Lib.hid (hT.below hbW)
  have HIB := Lib.hid hB
  have HSQ := Lib.hid ht.sq
  clear hT hR hB ht BX
  by_cases h128 : 128 < n
  · have z128 : (128 : Int) < (n : Int) := by omega
    go_enter Tryd.func4, Tryd.ntmps4
    go_upto_region 1 with (fail)
    rw [← hW]
    clear hW
    go_wp2_with fail
    refine HAW.out.mono ?_
    rintro e w1 ⟨rfl, hb1⟩
    clear HAW
    go_wp2_with fail
    go_ret
    exact ⟨rfl, bel_then hbW hb1⟩
  have z128 : ¬ (128 : Int) < (n : Int) := by omega
  obtain ⟨v, er, hmk, hvb, hmy⟩ := make_one A n c l x hx t.sq ep mss HSQ.out.1 HSQ.out.2 W HTb.out HRd.out HIB.out (by omega)
  obtain ⟨CA, nA, hans, hca⟩ := ans_one t v hvb.1 hvb.2
  have HMK := Lib.hid hmk
  have HMY := Lib.hid hmy
  have HANS := Lib.hid hans
  have HCA := Lib.hid hca
  have HVB := Lib.hid hvb
  clear hmk hmy hans hca hvb
  go_enter Tryd.func4, Tryd.ntmps4
  go_upto_region 1 with (fail)
  rw [← hW]
  clear hW
  go_wp2_with fail
  refine HAW.out.mono ?_
  rintro e w1 ⟨rfl, hb1⟩
  clear HAW
  obtain ⟨c0, c1, c2, c3, c4, c5, c6, c7, c8⟩ := cells9' (BT.below hb1)
  go_wp2_with fail
  clear c0 c1 c2 c3 c4 c5 c6 c7 c8
  refine (HST.out w1 hb1).mono ?_
  rintro e w2 ⟨q, rfl, _, hb2⟩
  have hb2' := bel_then hb1 hb2
  clear HST hb1 hb2
  cases q
  · go_wp2_with fail
    go_ret
    exact ⟨rfl, bel_then hbW hb2'⟩
  have BT2 := BT.below hb2'
  have c0 := BT2.cell (i := 0) rfl
  have c1 := BT2.cell (i := 1) rfl
  have c2 := BT2.cell (i := 2) rfl
  by_cases a1 : win < 0
  · go_wp2_with fail
    go_ret
    exact ⟨rfl, bel_then hbW hb2'⟩
  by_cases a2 : 65535 < win
  · go_wp2_with fail
    go_ret
    exact ⟨rfl, bel_then hbW hb2'⟩
  by_cases a3 : t.sp < 0
  · go_wp2_with fail
    go_ret
    exact ⟨rfl, bel_then hbW hb2'⟩
  by_cases a4 : 65535 < t.sp
  · go_wp2_with fail
    go_ret
    exact ⟨rfl, bel_then hbW hb2'⟩
  by_cases a5 : t.dp < 0
  · go_wp2_with fail
    go_ret
    exact ⟨rfl, bel_then hbW hb2'⟩
  by_cases a6 : 65535 < t.dp
  · go_wp2_with fail
    go_ret
    exact ⟨rfl, bel_then hbW hb2'⟩
  have HRNG : Hid ((0 ≤ win ∧ win ≤ 65535) ∧ (0 ≤ t.sp ∧ t.sp ≤ 65535) ∧ (0 ≤ t.dp ∧ t.dp ≤ 65535)) := Lib.hid (by omega)
  obtain ⟨x0, x1, x2, x3, x4⟩ := KX.out w2 hb2'
  go_wp2_with fail
  refine (HMK.out w2 hb2').mono ?_
  rintro e w3 ⟨rfl, hb3⟩
  have hb3' := bel_then hb2' hb3
  have BT3 := BT.below hb3'
  clear HMK c0 c1 c2 x0 x1 x2 x3 x4 BT2 hb2' hb3 a1 a2 a3 a4 a5 a6
  go_wp2_with (refine wpList_ldB 29 _ _ (by with_reducible rfl) rfl (by rfl) BT3 Tryd.underlying29 rfl (tcp_size (by rfl)) ?_)
  refine (HANS.out w3).mono ?_
  rintro e w4 ⟨hb4, a, rfl, hao, hac, hsl⟩
  have HAO := Lib.hid hao
  have HAC := Lib.hid (hac _ rfl)
  have HAS := Lib.hid hsl
  have hz := @BlkV.new w4 29 [.int .i64 0, .int .i64 0, .int .u32 0, .int .u32 0, .int .i64 0, .int .i64 0, .int .i64 0, .slice none 0 0, .slice none 0 0]
  simp only [Tcp.T.cells]
  clear hao hac hsl HANS BT3
  go_upto_region 7 with (refine wpList_stB 29 _ _ (by with_reducible rfl) rfl (by rfl) _ (by rfl) (by exact hz) (by rfl) (tcp_size (by rfl)) (by rfl) ?_; intro w5 BA5 hO5)
  have hb5 : Below w4.heap.size w4 w5 := hO5.bel (Nat.le_refl _) (bel_a (Below.refl _ _) _)
  have hs5 : w4.heap.size < w5.heap.size := by rw [hO5.size]; simp
  obtain ⟨ga, hga⟩ : ∃ ga, ga = w4.heap.size := ⟨_, rfl⟩
  have hgaW : W.heap.size ≤ ga := by have := hb3'.size; have := hb4.size; omega
  have hb5' := bel_then hb3' (bel_then hb4 hb5)
  have AO5 := Lib.hid (HAO.out.below hb5)
  rw [← hga] at BA5 hs5 ⊢
  clear hz hO5 hga HAO hb3' hb4 hb5
  by_cases her : er = 0
  case neg =>
    have herB : (er != 0) = true := by simp [her]
    go_wp2_with fail
    go_ret
    exact ⟨rfl, bel_then hbW hb5'⟩
  by_cases hnA : nA = 0
  case neg =>
    have herB : (er != 0) = false := by simp [her]
    have hnB : (nA != 0) = true := by simp [hnA]
    go_wp2_with fail
    go_ret
    exact ⟨rfl, bel_then hbW hb5'⟩
  have herB : (er != 0) = false := by simp [her]
  have hnB : (nA != 0) = false := by simp [hnA]
  obtain ⟨hmay, hvv⟩ := HMY.out her
  have hcon := HAC.out.trans (HCA.out hnA)
  clear HMY HCA HAC
  obtain ⟨asp, adp, asq, aak, afl, awi, aur, aAo, ano, aco, aAb, anb, acb, aop, abd⟩ := a
  simp only [Tcp.T.con, Prox.ansC, Prox.C.mk.injEq] at hcon
  obtain ⟨e1, e2, e3, e4, e5, e6, e7, _, _⟩ := hcon
  have e3' : v = asq := e3.symm
  subst e1 e2 e3' e4 e5 e6 e7
  simp only at BA5
  have HK : Hid (∀ w1 : World, Below W.heap.size W w1 → Calls Tryd.prog 10 #[.slice (some ⟨w1.heap.size, 0, none⟩) 1 1, .agg #[.int .i64 x.proto, .int .u32 x.src, .int .i64 x.sport, .int .u32 x.dst, .int .i64 x.dport], .agg #[.int .i64 t.sp, .int .i64 t.dp, .int .u32 (Seq.step t.sq 1), .int .u32 (Seq.step v 1), .int .i64 16, .int .i64 win, .int .i64 0, .slice none 0 0, .slice none 0 0], .int .i64 ep] (w1.alloc (.cells #[.slice A n c] 27)) fun e w' => e = .returned (.tuple #[.int .i64 (Cook.sizeAt (Cook.place mss)), .bool true]) ∧ Below w1.heap.size w1 w') := Lib.hid fun w1 hb => known_own A n c l x hx t v win ep mss w1 (HTb.out.below hb) (HRd.out.below hb) HIB.out (by omega) HSQ.out hmay hvv
  clear hmay hvv her hnA
  generalize hszg : Cook.sizeAt (Cook.place mss) = sz at HK
  have HSZ : Hid (∀ w1 : World, Calls Tryd.prog 22 #[.int .i64 mss] w1 fun e w' => e = .returned (.tuple #[.int .i64 (Cook.place mss), .int .i64 sz]) ∧ Below w1.heap.size w1 w') := Lib.hid fun w1 => by
    have h := csize_spec mss w1
    rw [hszg] at h
    exact h
  have hszb : 0 ≤ sz ∧ sz ≤ 65535 := by
    rw [← hszg]
    exact size_rng _ (Cook.place_le mss)
  have HASK := Lib.hid (fun w1 => pask_ok (Tcp.third t v win) sz w1 (by have := HRNG.out; show -9223372036854775808 ≤ win ∧ win ≤ 9223372036854775807; omega) hszb.1 hszb.2 (show (Go.bits .and .i64 16 23 == 16) = true by decide))
  clear hszg hszb
  have HS1 := Lib.hid (fun w1 => seq_step v 1 w1)
  have BT5 := BT.below hb5'
  have KB : Hid (∀ w' : World, Below w5.heap.size w5 w' → (w'.cell? ⟨w.heap.size + 1, 0, none⟩ = some (.int .i64 t.sp) ∧ w'.cell? ⟨w.heap.size + 1, 1, none⟩ = some (.int .i64 t.dp) ∧ w'.cell? ⟨ga, 2, none⟩ = some (.int .u32 v) ∧ w'.cell? ⟨ga, 3, none⟩ = some (.int .u32 (Seq.step t.sq 1)))) := Lib.hid fun w' hb => ⟨(BT5.below hb).cell rfl, (BT5.below hb).cell rfl, (BA5.below hb).cell rfl, (BA5.below hb).cell rfl⟩
  have hbn : Below w5.heap.size w5 w5 := Below.refl _ _
  go_upto_region 9 with (fail)
  go_cut [19] (fun s19 wx => ∃ p, s19 = .pointer (some ⟨p, 0, none⟩) ∧ w5.heap.size ≤ p ∧ Below w5.heap.size w5 wx ∧ BlkV wx p 29 [.int .i64 t.sp, .int .i64 t.dp, .int .u32 (Seq.step t.sq 1), .int .u32 (Seq.step v 1), .int .i64 16, .int .i64 win, .int .i64 0, .slice none 0 0, .slice none 0 0])
  case first =>
    refine wp_region_held_drew (S := fun w' => (w'.cell? ⟨w.heap.size + 1, 0, none⟩ = some (.int .i64 t.sp) ∧ w'.cell? ⟨w.heap.size + 1, 1, none⟩ = some (.int .i64 t.dp) ∧ w'.cell? ⟨ga, 2, none⟩ = some (.int .u32 v) ∧ w'.cell? ⟨ga, 3, none⟩ = some (.int .u32 (Seq.step t.sq 1)))) (by kernel_rfl) (KB.out _ (bel_d hbn)) (fun hHeld => ?_)
    refine wpAnyH_takeD (i := 0) (some 95) (v := ?_) rfl rfl (by kernel_rfl) (by kernel_rfl) (by kernel_rfl) (fun _ _ _ h => h) (Or.inl ⟨by rfl, ?_⟩) (by assumption) ?_
    rotate_left
    · (intro w hSw; (try dsimp only at hSw); go_simp; try with_reducible rfl)
    try simp only [Act.put, List.setIfInBounds_toArray, List.set_cons_zero, List.set_cons_succ]
    refine wpAnyH_takeD (i := 1) (some 96) (v := ?_) rfl rfl (by kernel_rfl) (by kernel_rfl) (by kernel_rfl) (fun _ _ _ h => h) (Or.inl ⟨by rfl, ?_⟩) (by assumption) ?_
    rotate_left
    · (intro w hSw; (try dsimp only at hSw); go_simp; try with_reducible rfl)
    try simp only [Act.put, List.setIfInBounds_toArray, List.set_cons_zero, List.set_cons_succ]
    refine wpAnyH_takeD (i := 2) (some 97) (v := ?_) rfl rfl (by kernel_rfl) (by kernel_rfl) (by kernel_rfl) (fun _ _ _ h => h) (Or.inl ⟨by rfl, ?_⟩) (by assumption) ?_
    rotate_left
    · (intro w hSw; (try dsimp only at hSw); go_simp; try with_reducible rfl)
    try simp only [Act.put, List.setIfInBounds_toArray, List.set_cons_zero, List.set_cons_succ]
    refine wpAnyH_takeD (i := 3) (some 98) (v := ?_) rfl rfl (by kernel_rfl) (by kernel_rfl) (by kernel_rfl) (fun _ _ _ h => h) (Or.inl ⟨by rfl, ?_⟩) (by assumption) ?_
    rotate_left
    · (intro w hSw; (try dsimp only at hSw); go_simp; try with_reducible rfl)
    try simp only [Act.put, List.setIfInBounds_toArray, List.set_cons_zero, List.set_cons_succ]
    refine wpAnyH_takeD (i := 4) (some 99) (v := ?_) rfl rfl (by kernel_rfl) (by kernel_rfl) (by kernel_rfl) (fun _ _ _ h => h) (Or.inl ⟨by rfl, ?_⟩) (by assumption) ?_
    rotate_left
    · (intro w hSw; (try dsimp only at hSw); go_simp; try with_reducible rfl)
    try simp only [Act.put, List.setIfInBounds_toArray, List.set_cons_zero, List.set_cons_succ]
    refine wpAnyH_takeD (i := 5) (some 100) (v := ?_) rfl rfl (by kernel_rfl) (by kernel_rfl) (by kernel_rfl) (fun _ _ _ h => h) (Or.inl ⟨by rfl, ?_⟩) (by assumption) ?_
    rotate_left
    · (intro w hSw; (try dsimp only at hSw); go_simp; try with_reducible rfl)
    try simp only [Act.put, List.setIfInBounds_toArray, List.set_cons_zero, List.set_cons_succ]
    refine wpAnyH_takeD (i := 6) (some 101) (v := ?_) rfl rfl (by kernel_rfl) (by kernel_rfl) (by kernel_rfl) (fun _ _ _ h => h) (Or.inl ⟨by rfl, ?_⟩) (by assumption) ?_
    rotate_left
    · (intro w hSw; (try dsimp only at hSw); go_simp; try with_reducible rfl)
    try simp only [Act.put, List.setIfInBounds_toArray, List.set_cons_zero, List.set_cons_succ]
    refine wpAnyH_takeD (i := 7) (some 102) (v := ?_) rfl rfl (by kernel_rfl) (by kernel_rfl) (by kernel_rfl) (fun _ _ _ h => h) (Or.inl ⟨by rfl, ?_⟩) (by assumption) ?_
    rotate_left
    · (intro w hSw; (try dsimp only at hSw); go_simp; try with_reducible rfl)
    try simp only [Act.put, List.setIfInBounds_toArray, List.set_cons_zero, List.set_cons_succ]
    refine wpAnyH_takeD (i := 9) (some 104) (v := ?_) rfl rfl (by kernel_rfl) (by kernel_rfl) (by kernel_rfl) (fun _ _ _ h => h) (Or.inl ⟨by rfl, ?_⟩) (by assumption) ?_
    rotate_left
    · (intro w hSw; (try dsimp only at hSw); go_simp; try with_reducible rfl)
    try simp only [Act.put, List.setIfInBounds_toArray, List.set_cons_zero, List.set_cons_succ]
    refine wpAnyH_ready (rs := [8, 11]) (by kernel_rfl) (by simp) ?_
    refine AllReadyH.cons (o := _) rfl (fun K hK => ?_) (AllReadyH.cons (o := _) rfl (fun K hK => ?_) AllReadyH.nil)
    · skip
      go_simp
      refine (HS1.out _).mono ?_
      rintro e wx ⟨rfl, rfl⟩
      go_wp2_with fail
      refine hK.out _ _ (KB.out _ (by first | exact hy | exact bel_d hbn)) (fun hHeld => ?_)
      clear hK K
      try simp only [Act.put, List.setIfInBounds_toArray, List.set_cons_zero, List.set_cons_succ]
      refine wpAnyH_takeD (i := 10) (some 105) (v := ?_) rfl rfl (by kernel_rfl) (by kernel_rfl) (by kernel_rfl) (fun _ _ _ h => h) (Or.inl ⟨by rfl, ?_⟩) (by assumption) ?_
      rotate_left
      · (intro w hSw; (try dsimp only at hSw); go_simp; try with_reducible rfl)
      try simp only [Act.put, List.setIfInBounds_toArray, List.set_cons_zero, List.set_cons_succ]
      refine wpAnyH_ready (rs := [11]) (by kernel_rfl) (by simp) ?_
      refine AllReadyH.cons (o := _) rfl (fun K hK => ?_) AllReadyH.nil
      go_simp
      first | refine pk_gen (fun y1 hx1 => ?_) | refine pk_gend (fun y1 hx1 => ?_)
      have hy : Below w5.heap.size w5 y1 := by rw [hx1]; first | exact bel_a (Below.refl _ _) _ | exact bel_d (bel_a (Below.refl _ _) _) | exact bel_a (bel_d (Below.refl _ _)) _
      have G : BlkV y1 w5.heap.size 29 [.int .i64 0, .int .i64 0, .int .u32 0, .int .u32 0, .int .i64 0, .int .i64 0, .int .i64 0, .slice none 0 0, .slice none 0 0] := by rw [hx1]; first | exact BlkV.new_at _ _ _ rfl | exact BlkV.drewN (BlkV.new_at _ _ _ rfl) 1
      clear hx1
      refine hK.out _ _ (KB.out _ hy) (fun hHeld => ?_)
      clear hK K
      try simp only [Act.put, List.setIfInBounds_toArray, List.set_cons_zero, List.set_cons_succ]
      refine wpAnyH_ready (rs := [12]) (by kernel_rfl) (by simp) ?_
      refine AllReadyH.cons (o := _) rfl (fun K hK => ?_) AllReadyH.nil
      rw [if_pos (by rfl)]
      refine wp_stB 29 _ _ rfl (by rfl) (by rfl) _ (by rfl) G (by rfl) (tcp_size (by rfl)) (by rfl) ?_
      intro z Z O
      have hz := O.bel (Nat.le_refl _) hy
      refine hK.out _ _ (KB.out _ hz) (fun hHeld => ?_)
      clear hK K
      try simp only [Act.put, List.setIfInBounds_toArray, List.set_cons_zero, List.set_cons_succ]
      refine wpAnyH_done (by kernel_rfl) ?_ _
      go_wp2_with fail
      go_meet
      exact ⟨_, rfl, Nat.le_refl _, hz, Z⟩
    · skip
      go_simp
      first | refine pk_gen (fun y1 hx1 => ?_) | refine pk_gend (fun y1 hx1 => ?_)
      have hy : Below w5.heap.size w5 y1 := by rw [hx1]; first | exact bel_a (Below.refl _ _) _ | exact bel_d (bel_a (Below.refl _ _) _) | exact bel_a (bel_d (Below.refl _ _)) _
      have G : BlkV y1 w5.heap.size 29 [.int .i64 0, .int .i64 0, .int .u32 0, .int .u32 0, .int .i64 0, .int .i64 0, .int .i64 0, .slice none 0 0, .slice none 0 0] := by rw [hx1]; first | exact BlkV.new_at _ _ _ rfl | exact BlkV.drewN (BlkV.new_at _ _ _ rfl) 1
      clear hx1
      refine hK.out _ _ (KB.out _ hy) (fun hHeld => ?_)
      clear hK K
      try simp only [Act.put, List.setIfInBounds_toArray, List.set_cons_zero, List.set_cons_succ]
      refine wpAnyH_ready (rs := [8]) (by kernel_rfl) (by simp) ?_
      refine AllReadyH.cons (o := _) rfl (fun K hK => ?_) AllReadyH.nil
      go_simp
      refine (HS1.out _).mono ?_
      rintro e wx ⟨rfl, rfl⟩
      go_wp2_with fail
      refine hK.out _ _ (KB.out _ (by first | exact hy | exact bel_d hbn)) (fun hHeld => ?_)
      clear hK K
      try simp only [Act.put, List.setIfInBounds_toArray, List.set_cons_zero, List.set_cons_succ]
      refine wpAnyH_takeD (i := 10) (some 105) (v := ?_) rfl rfl (by kernel_rfl) (by kernel_rfl) (by kernel_rfl) (fun _ _ _ h => h) (Or.inl ⟨by rfl, ?_⟩) (by assumption) ?_
      rotate_left
      · (intro w hSw; (try dsimp only at hSw); go_simp; try with_reducible rfl)
      try simp only [Act.put, List.setIfInBounds_toArray, List.set_cons_zero, List.set_cons_succ]
      refine wpAnyH_ready (rs := [12]) (by kernel_rfl) (by simp) ?_
      refine AllReadyH.cons (o := _) rfl (fun K hK => ?_) AllReadyH.nil
      rw [if_pos (by rfl)]
      refine wp_stB 29 _ _ rfl (by rfl) (by rfl) _ (by rfl) G (by rfl) (tcp_size (by rfl)) (by rfl) ?_
      intro z Z O
      have hz := O.bel (Nat.le_refl _) hy
      refine hK.out _ _ (KB.out _ hz) (fun hHeld => ?_)
      clear hK K
      try simp only [Act.put, List.setIfInBounds_toArray, List.set_cons_zero, List.set_cons_succ]
      refine wpAnyH_done (by kernel_rfl) ?_ _
      go_wp2_with fail
      go_meet
      exact ⟨_, rfl, Nat.le_refl _, hz, Z⟩
  case rest =>
  obtain ⟨gt, rfl, hgt, hb6, BP6⟩ := hcut
  obtain ⟨w6, rfl⟩ : ∃ w6, w6 = wc := ⟨wc, rfl⟩
  have hb6' := bel_then hb5' hb6
  have AO6 := Lib.hid (AO5.out.below hb6)
  have BA6 := BA5.below hb6
  have hs6 := hb6.size
  have BP6a := BP6.alloc (.cells #[.slice A n c] 27)
  have hgt6 : gt < w6.heap.size := BP6.lt
  obtain ⟨x0, x1, x2, x3, x4⟩ := KX.out (w6.alloc (.cells #[.slice A n c] 27)) (bel_a hb6' _)
  clear KB hbn HS1 BA5 AO5 hb5' BT5
  go_wp2_with (refine wpList_ldB 29 _ _ (by with_reducible rfl) rfl (by rfl) BP6a Tryd.underlying29 rfl (tcp_size (by rfl)) ?_)
  refine (HK.out w6 hb6').mono ?_
  rintro e w7 ⟨rfl, hb7⟩
  clear x0 x1 x2 x3 x4 HK BP6a KX
  go_wp2_with fail
  refine (HSZ.out w7).mono ?_
  rintro e w8 ⟨rfl, hb8⟩
  have hb68 := bel_then hb7 hb8
  have hb8' := bel_then hb6' hb68
  have BP8 := BP6.below hb68
  have BA8 := BA6.below hb68
  have AO8 := Lib.hid (AO6.out.below hb68)
  have hs8 := hb68.size
  clear HSZ hb7 hb8 hb68 BP6 BA6 AO6 hb6'
  go_wp2_with (refine wpList_ldB 29 _ _ (by with_reducible rfl) rfl (by rfl) BP8 Tryd.underlying29 rfl (tcp_size (by rfl)) ?_)
  refine (HASK.out w8).mono ?_
  rintro e w9 ⟨hb9, q, rfl, hqo, hqc, hqs⟩
  have HQO := Lib.hid hqo
  have HQS := Lib.hid hqs
  have hqc := hqc _ rfl
  have hz := @BlkV.new w9 29 [.int .i64 0, .int .i64 0, .int .u32 0, .int .u32 0, .int .i64 0, .int .i64 0, .int .i64 0, .slice none 0 0, .slice none 0 0]
  simp only [Tcp.T.cells]
  clear hqo hqs HASK
  go_upto_region 13 with (refine wpList_stB 29 _ _ (by with_reducible rfl) rfl (by rfl) _ (by rfl) (by exact hz) (by rfl) (tcp_size (by rfl)) (by rfl) ?_; intro V BQ10 hO10)
  have hb10 : Below w9.heap.size w9 V := hO10.bel (Nat.le_refl _) (bel_a (Below.refl _ _) _)
  have hsV : w9.heap.size < V.heap.size := by rw [hO10.size]; simp
  obtain ⟨gq, hgq⟩ : ∃ gq, gq = w9.heap.size := ⟨_, rfl⟩
  have hbV9 := bel_then hb9 hb10
  have hbV := bel_then hb8' hbV9
  have BPV := BP8.below hbV9
  have BAV := BA8.below hbV9
  have AOV := Lib.hid (AO8.out.below hbV9)
  have QOV := Lib.hid (HQO.out.below hb10)
  rw [← hgq] at BQ10 hsV ⊢
  obtain ⟨qsp, qdp, qsq, qak, qfl, qwi, qur, qAo, qno, qco, qAb, qnb, qcb, qop, qbd⟩ := q
  simp only [Tcp.T.con, Prox.askC, Tcp.third, Prox.C.mk.injEq, Seq.step_back HSQ.out.1 HSQ.out.2] at hqc
  obtain ⟨e1, e2, e3, e4, e5, e6, e7, _, _⟩ := hqc
  have e6' : win = qwi := e6.symm
  subst e1 e2 e3 e4 e5 e6' e7
  simp only at BQ10
  have BTV := BT.below hbV
  clear hz hO10 hgq HQO hb9 hb10 hbV9 BP8 BA8 AO8 hb8'
  have KS : Hid (∀ w' : World, Below V.heap.size V w' → (w'.cell? ⟨gt, 0, none⟩ = some (.int .i64 t.sp) ∧ w'.cell? ⟨gt, 1, none⟩ = some (.int .i64 t.dp) ∧ w'.cell? ⟨gt, 2, none⟩ = some (.int .u32 (Seq.step t.sq 1)) ∧ w'.cell? ⟨gt, 3, none⟩ = some (.int .u32 (Seq.step v 1)) ∧ w'.cell? ⟨gt, 4, none⟩ = some (.int .i64 16) ∧ w'.cell? ⟨gt, 5, none⟩ = some (.int .i64 win) ∧ w'.cell? ⟨gt, 6, none⟩ = some (.int .i64 0) ∧ w'.cell? ⟨gt, 7, none⟩ = some (.slice none 0 0) ∧ w'.cell? ⟨gt, 8, none⟩ = some (.slice none 0 0) ∧ w'.cell? ⟨w.heap.size + 1, 0, none⟩ = some (.int .i64 t.sp) ∧ w'.cell? ⟨w.heap.size + 1, 1, none⟩ = some (.int .i64 t.dp) ∧ w'.cell? ⟨gq, 2, none⟩ = some (.int .u32 t.sq))) := Lib.hid (by
    intro w' hb
    obtain ⟨c0, c1, c2, c3, c4, c5, c6, c7, c8⟩ := cells9' (BPV.below hb)
    exact ⟨c0, c1, c2, c3, c4, c5, c6, c7, c8, (BTV.below hb).cell rfl, (BTV.below hb).cell rfl, (BQ10.below hb).cell rfl⟩)
  have HQ1 := Lib.hid (fun w1 => seq_step t.sq 1 w1)
  have HLN : Hid (∀ w1 : World, Calls Tryd.prog 15 #[.agg #[.int .i64 t.sp, .int .i64 t.dp, .int .u32 (Seq.step t.sq 1), .int .u32 (Seq.step v 1), .int .i64 16, .int .i64 win, .int .i64 0, .slice none 0 0, .slice none 0 0], .agg #[.int .i64 t.dp, .int .i64 t.sp, .int .u32 sv, .int .u32 (Seq.step t.sq 1), .int .i64 18, .int .i64 0, .int .i64 0, .slice none 0 0, .slice none 0 0], .int .u32 0] w1 fun e w' => e = .returned (.tuple #[.agg #[.int .u32 ((sv - v) % 4294967296), .int .u32 0], .agg #[.int .i64 t.sp, .int .i64 t.dp, .int .u32 (Seq.step t.sq 1), .int .u32 (Seq.step sv 1), .int .i64 16, .int .i64 win, .int .i64 0, .slice none 0 0, .slice none 0 0], .int .i64 0]) ∧ Below w1.heap.size w1 w') := Lib.hid fun w1 => by
    have h := plearn_spec (Tcp.third t v win) ⟨t.dp, t.sp, sv, Seq.step t.sq 1, 18, 0, 0, none, 0, 0, none, 0, 0, [], []⟩ 0 w1 (Lib.hid (show Go.bits .and .i64 16 23 = 16 by decide)) (Lib.hid (show Go.bits .and .i64 18 23 = 18 by decide)) (Lib.hid rfl)
    unfold LearnR at h
    simp only [Tcp.third, Seq.step_back HVB.out.1 HVB.out.2] at h
    exact h
  have hn0 : Below V.heap.size V V := Below.refl _ _
  have HBV := Lib.hid hbV
  have HBW := Lib.hid hbW
  clear hbV hbW BTV
  go_cut [26, 27, 28] (fun s26 s27 s28 wx => ∃ gp gz, s26 = .pointer (some ⟨gp, 0, none⟩) ∧ s27 = .pointer (some ⟨gz, 0, none⟩) ∧ s28 = .int .i64 0 ∧ Below V.heap.size V wx ∧ V.heap.size ≤ gp ∧ V.heap.size ≤ gz ∧ BlkV wx gp 31 [.int .u32 ((sv - v) % 4294967296), .int .u32 0] ∧ BlkV wx gz 29 [.int .i64 t.sp, .int .i64 t.dp, .int .u32 (Seq.step t.sq 1), .int .u32 (Seq.step sv 1), .int .i64 16, .int .i64 win, .int .i64 0, .slice none 0 0, .slice none 0 0])
  case first =>
    as_aux_lemma =>
      try clear BPV
      try clear BAV
      try clear AOV
      try clear QOV
      try clear HAS
      try clear HQS
      try clear HRNG
      try clear HTb
      try clear HRd
      try clear HIB
      try clear HSQ
      try clear HVB
      try clear HBV
      try clear HBW
      try clear BT
      try clear hx
      try clear hbV
      try clear hbW
      try clear hgt6
      try clear hgt
      try clear hgaW
      try clear hs5
      try clear hs6
      try clear hs8
      try clear hsV
      try clear hWs
      try clear z128
      try clear h128
      try clear hv0
      try clear hv1
      try clear herB
      try clear hnB
      try clear BQ10
      refine wp_region_held_drew (S := fun w' => (w'.cell? ⟨gt, 0, none⟩ = some (.int .i64 t.sp) ∧ w'.cell? ⟨gt, 1, none⟩ = some (.int .i64 t.dp) ∧ w'.cell? ⟨gt, 2, none⟩ = some (.int .u32 (Seq.step t.sq 1)) ∧ w'.cell? ⟨gt, 3, none⟩ = some (.int .u32 (Seq.step v 1)) ∧ w'.cell? ⟨gt, 4, none⟩ = some (.int .i64 16) ∧ w'.cell? ⟨gt, 5, none⟩ = some (.int .i64 win) ∧ w'.cell? ⟨gt, 6, none⟩ = some (.int .i64 0) ∧ w'.cell? ⟨gt, 7, none⟩ = some (.slice none 0 0) ∧ w'.cell? ⟨gt, 8, none⟩ = some (.slice none 0 0) ∧ w'.cell? ⟨w.heap.size + 1, 0, none⟩ = some (.int .i64 t.sp) ∧ w'.cell? ⟨w.heap.size + 1, 1, none⟩ = some (.int .i64 t.dp) ∧ w'.cell? ⟨gq, 2, none⟩ = some (.int .u32 t.sq))) (by kernel_rfl) (KS.out _ (bel_d hn0)) (fun hHeld => ?_)
      refine wpAnyH_takeD (i := 0) (some 127) (v := ?_) rfl rfl (by kernel_rfl) (by kernel_rfl) (by kernel_rfl) (fun _ _ _ h => h) (Or.inl ⟨by rfl, ?_⟩) (by assumption) ?_
      rotate_left
      · (intro w hSw; (try dsimp only at hSw); go_simp; try with_reducible rfl)
      try simp only [Act.put, List.setIfInBounds_toArray, List.set_cons_zero, List.set_cons_succ]
      refine wpAnyH_takeD (i := 1) (some 128) (v := ?_) rfl rfl (by kernel_rfl) (by kernel_rfl) (by kernel_rfl) (fun _ _ _ h => h) (Or.inl ⟨by rfl, ?_⟩) (by assumption) ?_
      rotate_left
      · (intro w hSw; (try dsimp only at hSw); go_simp; try with_reducible rfl)
      try simp only [Act.put, List.setIfInBounds_toArray, List.set_cons_zero, List.set_cons_succ]
      refine wpAnyH_takeD (i := 2) (some 129) (v := ?_) rfl rfl (by kernel_rfl) (by kernel_rfl) (by kernel_rfl) (fun _ _ _ h => h) (Or.inl ⟨by rfl, ?_⟩) (by assumption) ?_
      rotate_left
      · (intro w hSw; (try dsimp only at hSw); go_simp; try with_reducible rfl)
      try simp only [Act.put, List.setIfInBounds_toArray, List.set_cons_zero, List.set_cons_succ]
      refine wpAnyH_takeD (i := 3) (some 130) (v := ?_) rfl rfl (by kernel_rfl) (by kernel_rfl) (by kernel_rfl) (fun _ _ _ h => h) (Or.inl ⟨by rfl, ?_⟩) (by assumption) ?_
      rotate_left
      · (intro w hSw; (try dsimp only at hSw); go_simp; try with_reducible rfl)
      try simp only [Act.put, List.setIfInBounds_toArray, List.set_cons_zero, List.set_cons_succ]
      refine wpAnyH_takeD (i := 4) (some 131) (v := ?_) rfl rfl (by kernel_rfl) (by kernel_rfl) (by kernel_rfl) (fun _ _ _ h => h) (Or.inl ⟨by rfl, ?_⟩) (by assumption) ?_
      rotate_left
      · (intro w hSw; (try dsimp only at hSw); go_simp; try with_reducible rfl)
      try simp only [Act.put, List.setIfInBounds_toArray, List.set_cons_zero, List.set_cons_succ]
      refine wpAnyH_takeD (i := 5) (some 132) (v := ?_) rfl rfl (by kernel_rfl) (by kernel_rfl) (by kernel_rfl) (fun _ _ _ h => h) (Or.inl ⟨by rfl, ?_⟩) (by assumption) ?_
      rotate_left
      · (intro w hSw; (try dsimp only at hSw); go_simp; try with_reducible rfl)
      try simp only [Act.put, List.setIfInBounds_toArray, List.set_cons_zero, List.set_cons_succ]
      refine wpAnyH_takeD (i := 6) (some 133) (v := ?_) rfl rfl (by kernel_rfl) (by kernel_rfl) (by kernel_rfl) (fun _ _ _ h => h) (Or.inl ⟨by rfl, ?_⟩) (by assumption) ?_
      rotate_left
      · (intro w hSw; (try dsimp only at hSw); go_simp; try with_reducible rfl)
      try simp only [Act.put, List.setIfInBounds_toArray, List.set_cons_zero, List.set_cons_succ]
      refine wpAnyH_takeD (i := 7) (some 134) (v := ?_) rfl rfl (by kernel_rfl) (by kernel_rfl) (by kernel_rfl) (fun _ _ _ h => h) (Or.inl ⟨by rfl, ?_⟩) (by assumption) ?_
      rotate_left
      · (intro w hSw; (try dsimp only at hSw); go_simp; try with_reducible rfl)
      try simp only [Act.put, List.setIfInBounds_toArray, List.set_cons_zero, List.set_cons_succ]
      refine wpAnyH_ready (rs := [8, 15, 16]) (by kernel_rfl) (by simp) ?_
      refine AllReadyH.cons (o := _) rfl (fun K hK => ?_) (AllReadyH.cons (o := _) rfl (fun K hK => ?_) (AllReadyH.cons (o := _) rfl (fun K hK => ?_) AllReadyH.nil))
      · skip
        go_simp
        refine (HQ1.out _).mono ?_
        rintro e wx ⟨rfl, rfl⟩
        go_wp2_with fail
        refine hK.out _ _ (KS.out _ (by first | exact hn0 | exact bel_d hn0 | exact bel_d (bel_d hn0))) (fun hHeld => ?_)
        clear hK K
        try simp only [Act.put, List.setIfInBounds_toArray, List.set_cons_zero, List.set_cons_succ]
        refine wpAnyH_takeD (i := 9) (some 136) (v := ?_) rfl rfl (by kernel_rfl) (by kernel_rfl) (by kernel_rfl) (fun _ _ _ h => h) (Or.inl ⟨by rfl, ?_⟩) (by assumption) ?_
        rotate_left
        · (intro w hSw; (try dsimp only at hSw); go_simp; try with_reducible rfl)
        try simp only [Act.put, List.setIfInBounds_toArray, List.set_cons_zero, List.set_cons_succ]
        refine wpAnyH_ready (rs := [10, 15, 16]) (by kernel_rfl) (by simp) ?_
        refine AllReadyH.cons (o := _) rfl (fun K hK => ?_) (AllReadyH.cons (o := _) rfl (fun K hK => ?_) (AllReadyH.cons (o := _) rfl (fun K hK => ?_) AllReadyH.nil))
        · skip
          go_simp
          refine (HLN.out _).mono ?_
          rintro e y1 ⟨rfl, hx⟩
          have hy : Below V.heap.size V y1 := (by first | exact hx | exact bel_then (bel_d (Below.refl V.heap.size V)) hx)
          clear hx
          have hn1 := bel_then hn0 hy
          clear hy hn0 
          go_wp2_with fail
          refine hK.out _ _ (KS.out _ hn1) (fun hHeld => ?_)
          clear hK K
          try simp only [Act.put, List.setIfInBounds_toArray, List.set_cons_zero, List.set_cons_succ]
          refine wpAnyH_takeD (i := 11) (some 126) (v := ?_) rfl rfl (by kernel_rfl) (by kernel_rfl) (by kernel_rfl) (fun _ _ _ h => h) (Or.inl ⟨by rfl, ?_⟩) (by assumption) ?_
          rotate_left
          · (intro w hSw; (try dsimp only at hSw); go_simp; try with_reducible rfl)
          try simp only [Act.put, List.setIfInBounds_toArray, List.set_cons_zero, List.set_cons_succ]
          refine wpAnyH_takeD (i := 12) (some 138) (v := ?_) rfl rfl (by kernel_rfl) (by kernel_rfl) (by kernel_rfl) (fun _ _ _ h => h) (Or.inl ⟨by rfl, ?_⟩) (by assumption) ?_
          rotate_left
          · (intro w hSw; (try dsimp only at hSw); go_simp; try with_reducible rfl)
          try simp only [Act.put, List.setIfInBounds_toArray, List.set_cons_zero, List.set_cons_succ]
          refine wpAnyH_takeD (i := 13) (some 139) (v := ?_) rfl rfl (by kernel_rfl) (by kernel_rfl) (by kernel_rfl) (fun _ _ _ h => h) (Or.inl ⟨by rfl, ?_⟩) (by assumption) ?_
          rotate_left
          · (intro w hSw; (try dsimp only at hSw); go_simp; try with_reducible rfl)
          try simp only [Act.put, List.setIfInBounds_toArray, List.set_cons_zero, List.set_cons_succ]
          refine wpAnyH_takeD (i := 14) (some 140) (v := ?_) rfl rfl (by kernel_rfl) (by kernel_rfl) (by kernel_rfl) (fun _ _ _ h => h) (Or.inl ⟨by rfl, ?_⟩) (by assumption) ?_
          rotate_left
          · (intro w hSw; (try dsimp only at hSw); go_simp; try with_reducible rfl)
          try simp only [Act.put, List.setIfInBounds_toArray, List.set_cons_zero, List.set_cons_succ]
          refine wpAnyH_ready (rs := [15, 16]) (by kernel_rfl) (by simp) ?_
          refine AllReadyH.cons (o := _) rfl (fun K hK => ?_) (AllReadyH.cons (o := _) rfl (fun K hK => ?_) AllReadyH.nil)
          · skip
            go_simp
            first | refine pk_gen (fun y2 hx => ?_) | refine pk_gend (fun y2 hx => ?_)
            have hy : Below y1.heap.size y1 y2 := by rw [hx]; first | exact bel_a (Below.refl _ _) _ | exact bel_a (bel_d (Below.refl _ _)) _ | exact bel_d (bel_a (Below.refl _ _) _)
            obtain ⟨gp, hg⟩ : ∃ g, g = y1.heap.size := ⟨_, rfl⟩
            have Gp2 : Hid (BlkV y2 gp 31 [.int .u32 0, .int .u32 0]) := Lib.hid (by rw [hx, hg]; first | exact BlkV.new_at _ _ _ rfl | exact BlkV.drewN (BlkV.new_at _ _ _ rfl) 1)
            have Lp := Lib.hid (show V.heap.size ≤ gp by rw [hg]; exact (hn1).size)
            rw [← hg]
            clear hx hg
            have hn2 := bel_then hn1 hy
            clear hy hn1 
            refine hK.out _ _ (KS.out _ hn2) (fun hHeld => ?_)
            clear hK K
            try simp only [Act.put, List.setIfInBounds_toArray, List.set_cons_zero, List.set_cons_succ]
            refine wpAnyH_ready (rs := [16]) (by kernel_rfl) (by simp) ?_
            refine AllReadyH.cons (o := _) rfl (fun K hK => ?_) AllReadyH.nil
            go_simp
            first | refine pk_gen (fun y3 hx => ?_) | refine pk_gend (fun y3 hx => ?_)
            have hy : Below y2.heap.size y2 y3 := by rw [hx]; first | exact bel_a (Below.refl _ _) _ | exact bel_a (bel_d (Below.refl _ _)) _ | exact bel_d (bel_a (Below.refl _ _) _)
            obtain ⟨gz, hg⟩ : ∃ g, g = y2.heap.size := ⟨_, rfl⟩
            have Gz3 : Hid (BlkV y3 gz 29 [.int .i64 0, .int .i64 0, .int .u32 0, .int .u32 0, .int .i64 0, .int .i64 0, .int .i64 0, .slice none 0 0, .slice none 0 0]) := Lib.hid (by rw [hx, hg]; first | exact BlkV.new_at _ _ _ rfl | exact BlkV.drewN (BlkV.new_at _ _ _ rfl) 1)
            have Lz := Lib.hid (show V.heap.size ≤ gz by rw [hg]; exact (hn2).size)
            have NE := Lib.hid (show gp ≠ gz by have := Gp2.out.lt; omega)
            rw [← hg]
            clear hx hg
            have hn3 := bel_then hn2 hy
            have Gp3 := Lib.hid (Gp2.out.below hy)
            clear hy hn2 Gp2
            refine hK.out _ _ (KS.out _ hn3) (fun hHeld => ?_)
            clear hK K
            try simp only [Act.put, List.setIfInBounds_toArray, List.set_cons_zero, List.set_cons_succ]
            refine wpAnyH_ready (rs := [17]) (by kernel_rfl) (by simp) ?_
            refine AllReadyH.cons (o := _) rfl (fun K hK => ?_) AllReadyH.nil
            rw [if_pos (by rfl)]
            have q8 : BlkV y3 gp 31 [.int .u32 0, .int .u32 0] := Gp3.out
            refine wp_stB 31 _ _ rfl (by rfl) (by rfl) _ (by rfl) q8 (by rfl) (shift_size (by rfl)) (by rfl) ?_
            intro z8 Z8 O8
            have q9 : BlkV z8 gz 29 [.int .i64 0, .int .i64 0, .int .u32 0, .int .u32 0, .int .i64 0, .int .i64 0, .int .i64 0, .slice none 0 0, .slice none 0 0] := BlkV.only (show BlkV y3 gz 29 [.int .i64 0, .int .i64 0, .int .u32 0, .int .u32 0, .int .i64 0, .int .i64 0, .int .i64 0, .slice none 0 0, .slice none 0 0] from Gz3.out) O8 (fun h => NE.out h.symm)
            have hz8 := O8.bel Lp.out hn3
            clear q8 O8
            refine hK.out _ _ (KS.out _ hz8) (fun hHeld => ?_)
            clear hK K
            try simp only [Act.put, List.setIfInBounds_toArray, List.set_cons_zero, List.set_cons_succ]
            refine wpAnyH_ready (rs := [18]) (by kernel_rfl) (by simp) ?_
            refine AllReadyH.cons (o := _) rfl (fun K hK => ?_) AllReadyH.nil
            rw [if_pos (by rfl)]
            have q9' : BlkV z8 gz 29 [.int .i64 0, .int .i64 0, .int .u32 0, .int .u32 0, .int .i64 0, .int .i64 0, .int .i64 0, .slice none 0 0, .slice none 0 0] := q9
            refine wp_stB 29 _ _ rfl (by rfl) (by rfl) _ (by rfl) q9' (by rfl) (tcp_size (by rfl)) (by rfl) ?_
            intro z9 Z9 O9
            have Z8' := BlkV.only (show BlkV z8 gp 31 _ from Z8) O9 NE.out
            have hz9 := O9.bel Lz.out hz8
            have Z8h := Lib.hid Z8'
            have Z9h := Lib.hid Z9
            clear q9 q9' O9 Z8 Z8' Z9 hz8
            refine hK.out _ _ (KS.out _ hz9) (fun hHeld => ?_)
            clear hK K
            try simp only [Act.put, List.setIfInBounds_toArray, List.set_cons_zero, List.set_cons_succ]
            refine wpAnyH_takeD (i := 19) (some 28) (v := ?_) rfl rfl (by kernel_rfl) (by kernel_rfl) (by kernel_rfl) (fun _ _ _ h => h) (Or.inl ⟨by rfl, ?_⟩) (by assumption) ?_
            rotate_left
            · (intro w hSw; (try dsimp only at hSw); go_simp; try with_reducible rfl)
            try simp only [Act.put, List.setIfInBounds_toArray, List.set_cons_zero, List.set_cons_succ]
            refine wpAnyH_done (by kernel_rfl) ?_ _
            go_wp2_with fail
            go_meet
            exact ⟨gp, gz, rfl, rfl, rfl, hz9, Lp.out, Lz.out, Z8h.out, Z9h.out⟩
          · skip
            go_simp
            first | refine pk_gen (fun y2 hx => ?_) | refine pk_gend (fun y2 hx => ?_)
            have hy : Below y1.heap.size y1 y2 := by rw [hx]; first | exact bel_a (Below.refl _ _) _ | exact bel_a (bel_d (Below.refl _ _)) _ | exact bel_d (bel_a (Below.refl _ _) _)
            obtain ⟨gz, hg⟩ : ∃ g, g = y1.heap.size := ⟨_, rfl⟩
            have Gz2 : Hid (BlkV y2 gz 29 [.int .i64 0, .int .i64 0, .int .u32 0, .int .u32 0, .int .i64 0, .int .i64 0, .int .i64 0, .slice none 0 0, .slice none 0 0]) := Lib.hid (by rw [hx, hg]; first | exact BlkV.new_at _ _ _ rfl | exact BlkV.drewN (BlkV.new_at _ _ _ rfl) 1)
            have Lz := Lib.hid (show V.heap.size ≤ gz by rw [hg]; exact (hn1).size)
            rw [← hg]
            clear hx hg
            have hn2 := bel_then hn1 hy
            clear hy hn1 
            refine hK.out _ _ (KS.out _ hn2) (fun hHeld => ?_)
            clear hK K
            try simp only [Act.put, List.setIfInBounds_toArray, List.set_cons_zero, List.set_cons_succ]
            refine wpAnyH_ready (rs := [15]) (by kernel_rfl) (by simp) ?_
            refine AllReadyH.cons (o := _) rfl (fun K hK => ?_) AllReadyH.nil
            go_simp
            first | refine pk_gen (fun y3 hx => ?_) | refine pk_gend (fun y3 hx => ?_)
            have hy : Below y2.heap.size y2 y3 := by rw [hx]; first | exact bel_a (Below.refl _ _) _ | exact bel_a (bel_d (Below.refl _ _)) _ | exact bel_d (bel_a (Below.refl _ _) _)
            obtain ⟨gp, hg⟩ : ∃ g, g = y2.heap.size := ⟨_, rfl⟩
            have Gp3 : Hid (BlkV y3 gp 31 [.int .u32 0, .int .u32 0]) := Lib.hid (by rw [hx, hg]; first | exact BlkV.new_at _ _ _ rfl | exact BlkV.drewN (BlkV.new_at _ _ _ rfl) 1)
            have Lp := Lib.hid (show V.heap.size ≤ gp by rw [hg]; exact (hn2).size)
            have NE := Lib.hid (show gp ≠ gz by have := Gz2.out.lt; omega)
            rw [← hg]
            clear hx hg
            have hn3 := bel_then hn2 hy
            have Gz3 := Lib.hid (Gz2.out.below hy)
            clear hy hn2 Gz2
            refine hK.out _ _ (KS.out _ hn3) (fun hHeld => ?_)
            clear hK K
            try simp only [Act.put, List.setIfInBounds_toArray, List.set_cons_zero, List.set_cons_succ]
            refine wpAnyH_ready (rs := [17]) (by kernel_rfl) (by simp) ?_
            refine AllReadyH.cons (o := _) rfl (fun K hK => ?_) AllReadyH.nil
            rw [if_pos (by rfl)]
            have q8 : BlkV y3 gp 31 [.int .u32 0, .int .u32 0] := Gp3.out
            refine wp_stB 31 _ _ rfl (by rfl) (by rfl) _ (by rfl) q8 (by rfl) (shift_size (by rfl)) (by rfl) ?_
            intro z8 Z8 O8
            have q9 : BlkV z8 gz 29 [.int .i64 0, .int .i64 0, .int .u32 0, .int .u32 0, .int .i64 0, .int .i64 0, .int .i64 0, .slice none 0 0, .slice none 0 0] := BlkV.only (show BlkV y3 gz 29 [.int .i64 0, .int .i64 0, .int .u32 0, .int .u32 0, .int .i64 0, .int .i64 0, .int .i64 0, .slice none 0 0, .slice none 0 0] from Gz3.out) O8 (fun h => NE.out h.symm)
            have hz8 := O8.bel Lp.out hn3
            clear q8 O8
            refine hK.out _ _ (KS.out _ hz8) (fun hHeld => ?_)
            clear hK K
            try simp only [Act.put, List.setIfInBounds_toArray, List.set_cons_zero, List.set_cons_succ]
            refine wpAnyH_ready (rs := [18]) (by kernel_rfl) (by simp) ?_
            refine AllReadyH.cons (o := _) rfl (fun K hK => ?_) AllReadyH.nil
            rw [if_pos (by rfl)]
            have q9' : BlkV z8 gz 29 [.int .i64 0, .int .i64 0, .int .u32 0, .int .u32 0, .int .i64 0, .int .i64 0, .int .i64 0, .slice none 0 0, .slice none 0 0] := q9
            refine wp_stB 29 _ _ rfl (by rfl) (by rfl) _ (by rfl) q9' (by rfl) (tcp_size (by rfl)) (by rfl) ?_
            intro z9 Z9 O9
            have Z8' := BlkV.only (show BlkV z8 gp 31 _ from Z8) O9 NE.out
            have hz9 := O9.bel Lz.out hz8
            have Z8h := Lib.hid Z8'
            have Z9h := Lib.hid Z9
            clear q9 q9' O9 Z8 Z8' Z9 hz8
            refine hK.out _ _ (KS.out _ hz9) (fun hHeld => ?_)
            clear hK K
            try simp only [Act.put, List.setIfInBounds_toArray, List.set_cons_zero, List.set_cons_succ]
            refine wpAnyH_takeD (i := 19) (some 28) (v := ?_) rfl rfl (by kernel_rfl) (by kernel_rfl) (by kernel_rfl) (fun _ _ _ h => h) (Or.inl ⟨by rfl, ?_⟩) (by assumption) ?_
            rotate_left
            · (intro w hSw; (try dsimp only at hSw); go_simp; try with_reducible rfl)
            try simp only [Act.put, List.setIfInBounds_toArray, List.set_cons_zero, List.set_cons_succ]
            refine wpAnyH_done (by kernel_rfl) ?_ _
            go_wp2_with fail
            go_meet
            exact ⟨gp, gz, rfl, rfl, rfl, hz9, Lp.out, Lz.out, Z8h.out, Z9h.out⟩
        · skip
          go_simp
          first | refine pk_gen (fun y1 hx => ?_) | refine pk_gend (fun y1 hx => ?_)
          have hy : Below V.heap.size V y1 := by rw [hx]; first | exact bel_a (Below.refl _ _) _ | exact bel_a (bel_d (Below.refl _ _)) _ | exact bel_d (bel_a (Below.refl _ _) _)
          obtain ⟨gp, hg⟩ : ∃ g, g = V.heap.size := ⟨_, rfl⟩
          have Gp1 : Hid (BlkV y1 gp 31 [.int .u32 0, .int .u32 0]) := Lib.hid (by rw [hx, hg]; first | exact BlkV.new_at _ _ _ rfl | exact BlkV.drewN (BlkV.new_at _ _ _ rfl) 1)
          have Lp := Lib.hid (show V.heap.size ≤ gp by rw [hg]; exact (hn0).size)
          rw [← hg]
          clear hx hg
          have hn1 := bel_then hn0 hy
          clear hy hn0 
          refine hK.out _ _ (KS.out _ hn1) (fun hHeld => ?_)
          clear hK K
          try simp only [Act.put, List.setIfInBounds_toArray, List.set_cons_zero, List.set_cons_succ]
          refine wpAnyH_ready (rs := [10, 16]) (by kernel_rfl) (by simp) ?_
          refine AllReadyH.cons (o := _) rfl (fun K hK => ?_) (AllReadyH.cons (o := _) rfl (fun K hK => ?_) AllReadyH.nil)
          · skip
            go_simp
            refine (HLN.out _).mono ?_
            rintro e y2 ⟨rfl, hx⟩
            have hy : Below y1.heap.size y1 y2 := (by first | exact hx | exact bel_then (bel_d (Below.refl y1.heap.size y1)) hx)
            clear hx
            have hn2 := bel_then hn1 hy
            have Gp2 := Lib.hid (Gp1.out.below hy)
            clear hy hn1 Gp1
            go_wp2_with fail
            refine hK.out _ _ (KS.out _ hn2) (fun hHeld => ?_)
            clear hK K
            try simp only [Act.put, List.setIfInBounds_toArray, List.set_cons_zero, List.set_cons_succ]
            refine wpAnyH_takeD (i := 11) (some 126) (v := ?_) rfl rfl (by kernel_rfl) (by kernel_rfl) (by kernel_rfl) (fun _ _ _ h => h) (Or.inl ⟨by rfl, ?_⟩) (by assumption) ?_
            rotate_left
            · (intro w hSw; (try dsimp only at hSw); go_simp; try with_reducible rfl)
            try simp only [Act.put, List.setIfInBounds_toArray, List.set_cons_zero, List.set_cons_succ]
            refine wpAnyH_takeD (i := 12) (some 138) (v := ?_) rfl rfl (by kernel_rfl) (by kernel_rfl) (by kernel_rfl) (fun _ _ _ h => h) (Or.inl ⟨by rfl, ?_⟩) (by assumption) ?_
            rotate_left
            · (intro w hSw; (try dsimp only at hSw); go_simp; try with_reducible rfl)
            try simp only [Act.put, List.setIfInBounds_toArray, List.set_cons_zero, List.set_cons_succ]
            refine wpAnyH_takeD (i := 13) (some 139) (v := ?_) rfl rfl (by kernel_rfl) (by kernel_rfl) (by kernel_rfl) (fun _ _ _ h => h) (Or.inl ⟨by rfl, ?_⟩) (by assumption) ?_
            rotate_left
            · (intro w hSw; (try dsimp only at hSw); go_simp; try with_reducible rfl)
            try simp only [Act.put, List.setIfInBounds_toArray, List.set_cons_zero, List.set_cons_succ]
            refine wpAnyH_takeD (i := 14) (some 140) (v := ?_) rfl rfl (by kernel_rfl) (by kernel_rfl) (by kernel_rfl) (fun _ _ _ h => h) (Or.inl ⟨by rfl, ?_⟩) (by assumption) ?_
            rotate_left
            · (intro w hSw; (try dsimp only at hSw); go_simp; try with_reducible rfl)
            try simp only [Act.put, List.setIfInBounds_toArray, List.set_cons_zero, List.set_cons_succ]
            refine wpAnyH_ready (rs := [16]) (by kernel_rfl) (by simp) ?_
            refine AllReadyH.cons (o := _) rfl (fun K hK => ?_) AllReadyH.nil
            go_simp
            first | refine pk_gen (fun y3 hx => ?_) | refine pk_gend (fun y3 hx => ?_)
            have hy : Below y2.heap.size y2 y3 := by rw [hx]; first | exact bel_a (Below.refl _ _) _ | exact bel_a (bel_d (Below.refl _ _)) _ | exact bel_d (bel_a (Below.refl _ _) _)
            obtain ⟨gz, hg⟩ : ∃ g, g = y2.heap.size := ⟨_, rfl⟩
            have Gz3 : Hid (BlkV y3 gz 29 [.int .i64 0, .int .i64 0, .int .u32 0, .int .u32 0, .int .i64 0, .int .i64 0, .int .i64 0, .slice none 0 0, .slice none 0 0]) := Lib.hid (by rw [hx, hg]; first | exact BlkV.new_at _ _ _ rfl | exact BlkV.drewN (BlkV.new_at _ _ _ rfl) 1)
            have Lz := Lib.hid (show V.heap.size ≤ gz by rw [hg]; exact (hn2).size)
            have NE := Lib.hid (show gp ≠ gz by have := Gp2.out.lt; omega)
            rw [← hg]
            clear hx hg
            have hn3 := bel_then hn2 hy
            have Gp3 := Lib.hid (Gp2.out.below hy)
            clear hy hn2 Gp2
            refine hK.out _ _ (KS.out _ hn3) (fun hHeld => ?_)
            clear hK K
            try simp only [Act.put, List.setIfInBounds_toArray, List.set_cons_zero, List.set_cons_succ]
            refine wpAnyH_ready (rs := [17]) (by kernel_rfl) (by simp) ?_
            refine AllReadyH.cons (o := _) rfl (fun K hK => ?_) AllReadyH.nil
            rw [if_pos (by rfl)]
            have q8 : BlkV y3 gp 31 [.int .u32 0, .int .u32 0] := Gp3.out
            refine wp_stB 31 _ _ rfl (by rfl) (by rfl) _ (by rfl) q8 (by rfl) (shift_size (by rfl)) (by rfl) ?_
            intro z8 Z8 O8
            have q9 : BlkV z8 gz 29 [.int .i64 0, .int .i64 0, .int .u32 0, .int .u32 0, .int .i64 0, .int .i64 0, .int .i64 0, .slice none 0 0, .slice none 0 0] := BlkV.only (show BlkV y3 gz 29 [.int .i64 0, .int .i64 0, .int .u32 0, .int .u32 0, .int .i64 0, .int .i64 0, .int .i64 0, .slice none 0 0, .slice none 0 0] from Gz3.out) O8 (fun h => NE.out h.symm)
            have hz8 := O8.bel Lp.out hn3
            clear q8 O8
            refine hK.out _ _ (KS.out _ hz8) (fun hHeld => ?_)
            clear hK K
            try simp only [Act.put, List.setIfInBounds_toArray, List.set_cons_zero, List.set_cons_succ]
            refine wpAnyH_ready (rs := [18]) (by kernel_rfl) (by simp) ?_
            refine AllReadyH.cons (o := _) rfl (fun K hK => ?_) AllReadyH.nil
            rw [if_pos (by rfl)]
            have q9' : BlkV z8 gz 29 [.int .i64 0, .int .i64 0, .int .u32 0, .int .u32 0, .int .i64 0, .int .i64 0, .int .i64 0, .slice none 0 0, .slice none 0 0] := q9
            refine wp_stB 29 _ _ rfl (by rfl) (by rfl) _ (by rfl) q9' (by rfl) (tcp_size (by rfl)) (by rfl) ?_
            intro z9 Z9 O9
            have Z8' := BlkV.only (show BlkV z8 gp 31 _ from Z8) O9 NE.out
            have hz9 := O9.bel Lz.out hz8
            have Z8h := Lib.hid Z8'
            have Z9h := Lib.hid Z9
            clear q9 q9' O9 Z8 Z8' Z9 hz8
            refine hK.out _ _ (KS.out _ hz9) (fun hHeld => ?_)
            clear hK K
            try simp only [Act.put, List.setIfInBounds_toArray, List.set_cons_zero, List.set_cons_succ]
            refine wpAnyH_takeD (i := 19) (some 28) (v := ?_) rfl rfl (by kernel_rfl) (by kernel_rfl) (by kernel_rfl) (fun _ _ _ h => h) (Or.inl ⟨by rfl, ?_⟩) (by assumption) ?_
            rotate_left
            · (intro w hSw; (try dsimp only at hSw); go_simp; try with_reducible rfl)
            try simp only [Act.put, List.setIfInBounds_toArray, List.set_cons_zero, List.set_cons_succ]
            refine wpAnyH_done (by kernel_rfl) ?_ _
            go_wp2_with fail
            go_meet
            exact ⟨gp, gz, rfl, rfl, rfl, hz9, Lp.out, Lz.out, Z8h.out, Z9h.out⟩
          · skip
            go_simp
            first | refine pk_gen (fun y2 hx => ?_) | refine pk_gend (fun y2 hx => ?_)
            have hy : Below y1.heap.size y1 y2 := by rw [hx]; first | exact bel_a (Below.refl _ _) _ | exact bel_a (bel_d (Below.refl _ _)) _ | exact bel_d (bel_a (Below.refl _ _) _)
            obtain ⟨gz, hg⟩ : ∃ g, g = y1.heap.size := ⟨_, rfl⟩
            have Gz2 : Hid (BlkV y2 gz 29 [.int .i64 0, .int .i64 0, .int .u32 0, .int .u32 0, .int .i64 0, .int .i64 0, .int .i64 0, .slice none 0 0, .slice none 0 0]) := Lib.hid (by rw [hx, hg]; first | exact BlkV.new_at _ _ _ rfl | exact BlkV.drewN (BlkV.new_at _ _ _ rfl) 1)
            have Lz := Lib.hid (show V.heap.size ≤ gz by rw [hg]; exact (hn1).size)
            have NE := Lib.hid (show gp ≠ gz by have := Gp1.out.lt; omega)
            rw [← hg]
            clear hx hg
            have hn2 := bel_then hn1 hy
            have Gp2 := Lib.hid (Gp1.out.below hy)
            clear hy hn1 Gp1
            refine hK.out _ _ (KS.out _ hn2) (fun hHeld => ?_)
            clear hK K
            try simp only [Act.put, List.setIfInBounds_toArray, List.set_cons_zero, List.set_cons_succ]
            refine wpAnyH_ready (rs := [10]) (by kernel_rfl) (by simp) ?_
            refine AllReadyH.cons (o := _) rfl (fun K hK => ?_) AllReadyH.nil
            go_simp
            refine (HLN.out _).mono ?_
            rintro e y3 ⟨rfl, hx⟩
            have hy : Below y2.heap.size y2 y3 := (by first | exact hx | exact bel_then (bel_d (Below.refl y2.heap.size y2)) hx)
            clear hx
            have hn3 := bel_then hn2 hy
            have Gp3 := Lib.hid (Gp2.out.below hy)
            have Gz3 := Lib.hid (Gz2.out.below hy)
            clear hy hn2 Gp2 Gz2
            go_wp2_with fail
            refine hK.out _ _ (KS.out _ hn3) (fun hHeld => ?_)
            clear hK K
            try simp only [Act.put, List.setIfInBounds_toArray, List.set_cons_zero, List.set_cons_succ]
            refine wpAnyH_takeD (i := 11) (some 126) (v := ?_) rfl rfl (by kernel_rfl) (by kernel_rfl) (by kernel_rfl) (fun _ _ _ h => h) (Or.inl ⟨by rfl, ?_⟩) (by assumption) ?_
            rotate_left
            · (intro w hSw; (try dsimp only at hSw); go_simp; try with_reducible rfl)
            try simp only [Act.put, List.setIfInBounds_toArray, List.set_cons_zero, List.set_cons_succ]
            refine wpAnyH_takeD (i := 12) (some 138) (v := ?_) rfl rfl (by kernel_rfl) (by kernel_rfl) (by kernel_rfl) (fun _ _ _ h => h) (Or.inl ⟨by rfl, ?_⟩) (by assumption) ?_
            rotate_left
            · (intro w hSw; (try dsimp only at hSw); go_simp; try with_reducible rfl)
            try simp only [Act.put, List.setIfInBounds_toArray, List.set_cons_zero, List.set_cons_succ]
            refine wpAnyH_takeD (i := 13) (some 139) (v := ?_) rfl rfl (by kernel_rfl) (by kernel_rfl) (by kernel_rfl) (fun _ _ _ h => h) (Or.inl ⟨by rfl, ?_⟩) (by assumption) ?_
            rotate_left
            · (intro w hSw; (try dsimp only at hSw); go_simp; try with_reducible rfl)
            try simp only [Act.put, List.setIfInBounds_toArray, List.set_cons_zero, List.set_cons_succ]
            refine wpAnyH_takeD (i := 14) (some 140) (v := ?_) rfl rfl (by kernel_rfl) (by kernel_rfl) (by kernel_rfl) (fun _ _ _ h => h) (Or.inl ⟨by rfl, ?_⟩) (by assumption) ?_
            rotate_left
            · (intro w hSw; (try dsimp only at hSw); go_simp; try with_reducible rfl)
            try simp only [Act.put, List.setIfInBounds_toArray, List.set_cons_zero, List.set_cons_succ]
            refine wpAnyH_ready (rs := [17]) (by kernel_rfl) (by simp) ?_
            refine AllReadyH.cons (o := _) rfl (fun K hK => ?_) AllReadyH.nil
            rw [if_pos (by rfl)]
            have q8 : BlkV y3 gp 31 [.int .u32 0, .int .u32 0] := Gp3.out
            refine wp_stB 31 _ _ rfl (by rfl) (by rfl) _ (by rfl) q8 (by rfl) (shift_size (by rfl)) (by rfl) ?_
            intro z8 Z8 O8
            have q9 : BlkV z8 gz 29 [.int .i64 0, .int .i64 0, .int .u32 0, .int .u32 0, .int .i64 0, .int .i64 0, .int .i64 0, .slice none 0 0, .slice none 0 0] := BlkV.only (show BlkV y3 gz 29 [.int .i64 0, .int .i64 0, .int .u32 0, .int .u32 0, .int .i64 0, .int .i64 0, .int .i64 0, .slice none 0 0, .slice none 0 0] from Gz3.out) O8 (fun h => NE.out h.symm)
            have hz8 := O8.bel Lp.out hn3
            clear q8 O8
            refine hK.out _ _ (KS.out _ hz8) (fun hHeld => ?_)
            clear hK K
            try simp only [Act.put, List.setIfInBounds_toArray, List.set_cons_zero, List.set_cons_succ]
            refine wpAnyH_ready (rs := [18]) (by kernel_rfl) (by simp) ?_
            refine AllReadyH.cons (o := _) rfl (fun K hK => ?_) AllReadyH.nil
            rw [if_pos (by rfl)]
            have q9' : BlkV z8 gz 29 [.int .i64 0, .int .i64 0, .int .u32 0, .int .u32 0, .int .i64 0, .int .i64 0, .int .i64 0, .slice none 0 0, .slice none 0 0] := q9
            refine wp_stB 29 _ _ rfl (by rfl) (by rfl) _ (by rfl) q9' (by rfl) (tcp_size (by rfl)) (by rfl) ?_
            intro z9 Z9 O9
            have Z8' := BlkV.only (show BlkV z8 gp 31 _ from Z8) O9 NE.out
            have hz9 := O9.bel Lz.out hz8
            have Z8h := Lib.hid Z8'
            have Z9h := Lib.hid Z9
            clear q9 q9' O9 Z8 Z8' Z9 hz8
            refine hK.out _ _ (KS.out _ hz9) (fun hHeld => ?_)
            clear hK K
            try simp only [Act.put, List.setIfInBounds_toArray, List.set_cons_zero, List.set_cons_succ]
            refine wpAnyH_takeD (i := 19) (some 28) (v := ?_) rfl rfl (by kernel_rfl) (by kernel_rfl) (by kernel_rfl) (fun _ _ _ h => h) (Or.inl ⟨by rfl, ?_⟩) (by assumption) ?_
            rotate_left
            · (intro w hSw; (try dsimp only at hSw); go_simp; try with_reducible rfl)
            try simp only [Act.put, List.setIfInBounds_toArray, List.set_cons_zero, List.set_cons_succ]
            refine wpAnyH_done (by kernel_rfl) ?_ _
            go_wp2_with fail
            go_meet
            exact ⟨gp, gz, rfl, rfl, rfl, hz9, Lp.out, Lz.out, Z8h.out, Z9h.out⟩
        · skip
          go_simp
          first | refine pk_gen (fun y1 hx => ?_) | refine pk_gend (fun y1 hx => ?_)
          have hy : Below V.heap.size V y1 := by rw [hx]; first | exact bel_a (Below.refl _ _) _ | exact bel_a (bel_d (Below.refl _ _)) _ | exact bel_d (bel_a (Below.refl _ _) _)
          obtain ⟨gz, hg⟩ : ∃ g, g = V.heap.size := ⟨_, rfl⟩
          have Gz1 : Hid (BlkV y1 gz 29 [.int .i64 0, .int .i64 0, .int .u32 0, .int .u32 0, .int .i64 0, .int .i64 0, .int .i64 0, .slice none 0 0, .slice none 0 0]) := Lib.hid (by rw [hx, hg]; first | exact BlkV.new_at _ _ _ rfl | exact BlkV.drewN (BlkV.new_at _ _ _ rfl) 1)
          have Lz := Lib.hid (show V.heap.size ≤ gz by rw [hg]; exact (hn0).size)
          rw [← hg]
          clear hx hg
          have hn1 := bel_then hn0 hy
          clear hy hn0 
          refine hK.out _ _ (KS.out _ hn1) (fun hHeld => ?_)
          clear hK K
          try simp only [Act.put, List.setIfInBounds_toArray, List.set_cons_zero, List.set_cons_succ]
          refine wpAnyH_ready (rs := [10, 15]) (by kernel_rfl) (by simp) ?_
          refine AllReadyH.cons (o := _) rfl (fun K hK => ?_) (AllReadyH.cons (o := _) rfl (fun K hK => ?_) AllReadyH.nil)
          · skip
            go_simp
            refine (HLN.out _).mono ?_
            rintro e y2 ⟨rfl, hx⟩
            have hy : Below y1.heap.size y1 y2 := (by first | exact hx | exact bel_then (bel_d (Below.refl y1.heap.size y1)) hx)
            clear hx
            have hn2 := bel_then hn1 hy
            have Gz2 := Lib.hid (Gz1.out.below hy)
            clear hy hn1 Gz1
            go_wp2_with fail
            refine hK.out _ _ (KS.out _ hn2) (fun hHeld => ?_)
            clear hK K
            try simp only [Act.put, List.setIfInBounds_toArray, List.set_cons_zero, List.set_cons_succ]
            refine wpAnyH_takeD (i := 11) (some 126) (v := ?_) rfl rfl (by kernel_rfl) (by kernel_rfl) (by kernel_rfl) (fun _ _ _ h => h) (Or.inl ⟨by rfl, ?_⟩) (by assumption) ?_
            rotate_left
            · (intro w hSw; (try dsimp only at hSw); go_simp; try with_reducible rfl)
            try simp only [Act.put, List.setIfInBounds_toArray, List.set_cons_zero, List.set_cons_succ]
            refine wpAnyH_takeD (i := 12) (some 138) (v := ?_) rfl rfl (by kernel_rfl) (by kernel_rfl) (by kernel_rfl) (fun _ _ _ h => h) (Or.inl ⟨by rfl, ?_⟩) (by assumption) ?_
            rotate_left
            · (intro w hSw; (try dsimp only at hSw); go_simp; try with_reducible rfl)
            try simp only [Act.put, List.setIfInBounds_toArray, List.set_cons_zero, List.set_cons_succ]
            refine wpAnyH_takeD (i := 13) (some 139) (v := ?_) rfl rfl (by kernel_rfl) (by kernel_rfl) (by kernel_rfl) (fun _ _ _ h => h) (Or.inl ⟨by rfl, ?_⟩) (by assumption) ?_
            rotate_left
            · (intro w hSw; (try dsimp only at hSw); go_simp; try with_reducible rfl)
            try simp only [Act.put, List.setIfInBounds_toArray, List.set_cons_zero, List.set_cons_succ]
            refine wpAnyH_takeD (i := 14) (some 140) (v := ?_) rfl rfl (by kernel_rfl) (by kernel_rfl) (by kernel_rfl) (fun _ _ _ h => h) (Or.inl ⟨by rfl, ?_⟩) (by assumption) ?_
            rotate_left
            · (intro w hSw; (try dsimp only at hSw); go_simp; try with_reducible rfl)
            try simp only [Act.put, List.setIfInBounds_toArray, List.set_cons_zero, List.set_cons_succ]
            refine wpAnyH_ready (rs := [15]) (by kernel_rfl) (by simp) ?_
            refine AllReadyH.cons (o := _) rfl (fun K hK => ?_) AllReadyH.nil
            go_simp
            first | refine pk_gen (fun y3 hx => ?_) | refine pk_gend (fun y3 hx => ?_)
            have hy : Below y2.heap.size y2 y3 := by rw [hx]; first | exact bel_a (Below.refl _ _) _ | exact bel_a (bel_d (Below.refl _ _)) _ | exact bel_d (bel_a (Below.refl _ _) _)
            obtain ⟨gp, hg⟩ : ∃ g, g = y2.heap.size := ⟨_, rfl⟩
            have Gp3 : Hid (BlkV y3 gp 31 [.int .u32 0, .int .u32 0]) := Lib.hid (by rw [hx, hg]; first | exact BlkV.new_at _ _ _ rfl | exact BlkV.drewN (BlkV.new_at _ _ _ rfl) 1)
            have Lp := Lib.hid (show V.heap.size ≤ gp by rw [hg]; exact (hn2).size)
            have NE := Lib.hid (show gp ≠ gz by have := Gz2.out.lt; omega)
            rw [← hg]
            clear hx hg
            have hn3 := bel_then hn2 hy
            have Gz3 := Lib.hid (Gz2.out.below hy)
            clear hy hn2 Gz2
            refine hK.out _ _ (KS.out _ hn3) (fun hHeld => ?_)
            clear hK K
            try simp only [Act.put, List.setIfInBounds_toArray, List.set_cons_zero, List.set_cons_succ]
            refine wpAnyH_ready (rs := [17]) (by kernel_rfl) (by simp) ?_
            refine AllReadyH.cons (o := _) rfl (fun K hK => ?_) AllReadyH.nil
            rw [if_pos (by rfl)]
            have q8 : BlkV y3 gp 31 [.int .u32 0, .int .u32 0] := Gp3.out
            refine wp_stB 31 _ _ rfl (by rfl) (by rfl) _ (by rfl) q8 (by rfl) (shift_size (by rfl)) (by rfl) ?_
            intro z8 Z8 O8
            have q9 : BlkV z8 gz 29 [.int .i64 0, .int .i64 0, .int .u32 0, .int .u32 0, .int .i64 0, .int .i64 0, .int .i64 0, .slice none 0 0, .slice none 0 0] := BlkV.only (show BlkV y3 gz 29 [.int .i64 0, .int .i64 0, .int .u32 0, .int .u32 0, .int .i64 0, .int .i64 0, .int .i64 0, .slice none 0 0, .slice none 0 0] from Gz3.out) O8 (fun h => NE.out h.symm)
            have hz8 := O8.bel Lp.out hn3
            clear q8 O8
            refine hK.out _ _ (KS.out _ hz8) (fun hHeld => ?_)
            clear hK K
            try simp only [Act.put, List.setIfInBounds_toArray, List.set_cons_zero, List.set_cons_succ]
            refine wpAnyH_ready (rs := [18]) (by kernel_rfl) (by simp) ?_
            refine AllReadyH.cons (o := _) rfl (fun K hK => ?_) AllReadyH.nil
            rw [if_pos (by rfl)]
            have q9' : BlkV z8 gz 29 [.int .i64 0, .int .i64 0, .int .u32 0, .int .u32 0, .int .i64 0, .int .i64 0, .int .i64 0, .slice none 0 0, .slice none 0 0] := q9
            refine wp_stB 29 _ _ rfl (by rfl) (by rfl) _ (by rfl) q9' (by rfl) (tcp_size (by rfl)) (by rfl) ?_
            intro z9 Z9 O9
            have Z8' := BlkV.only (show BlkV z8 gp 31 _ from Z8) O9 NE.out
            have hz9 := O9.bel Lz.out hz8
            have Z8h := Lib.hid Z8'
            have Z9h := Lib.hid Z9
            clear q9 q9' O9 Z8 Z8' Z9 hz8
            refine hK.out _ _ (KS.out _ hz9) (fun hHeld => ?_)
            clear hK K
            try simp only [Act.put, List.setIfInBounds_toArray, List.set_cons_zero, List.set_cons_succ]
            refine wpAnyH_takeD (i := 19) (some 28) (v := ?_) rfl rfl (by kernel_rfl) (by kernel_rfl) (by kernel_rfl) (fun _ _ _ h => h) (Or.inl ⟨by rfl, ?_⟩) (by assumption) ?_
            rotate_left
            · (intro w hSw; (try dsimp only at hSw); go_simp; try with_reducible rfl)
            try simp only [Act.put, List.setIfInBounds_toArray, List.set_cons_zero, List.set_cons_succ]
            refine wpAnyH_done (by kernel_rfl) ?_ _
            go_wp2_with fail
            go_meet
            exact ⟨gp, gz, rfl, rfl, rfl, hz9, Lp.out, Lz.out, Z8h.out, Z9h.out⟩
          · skip
            go_simp
            first | refine pk_gen (fun y2 hx => ?_) | refine pk_gend (fun y2 hx => ?_)
            have hy : Below y1.heap.size y1 y2 := by rw [hx]; first | exact bel_a (Below.refl _ _) _ | exact bel_a (bel_d (Below.refl _ _)) _ | exact bel_d (bel_a (Below.refl _ _) _)
            obtain ⟨gp, hg⟩ : ∃ g, g = y1.heap.size := ⟨_, rfl⟩
            have Gp2 : Hid (BlkV y2 gp 31 [.int .u32 0, .int .u32 0]) := Lib.hid (by rw [hx, hg]; first | exact BlkV.new_at _ _ _ rfl | exact BlkV.drewN (BlkV.new_at _ _ _ rfl) 1)
            have Lp := Lib.hid (show V.heap.size ≤ gp by rw [hg]; exact (hn1).size)
            have NE := Lib.hid (show gp ≠ gz by have := Gz1.out.lt; omega)
            rw [← hg]
            clear hx hg
            have hn2 := bel_then hn1 hy
            have Gz2 := Lib.hid (Gz1.out.below hy)
            clear hy hn1 Gz1
            refine hK.out _ _ (KS.out _ hn2) (fun hHeld => ?_)
            clear hK K
            try simp only [Act.put, List.setIfInBounds_toArray, List.set_cons_zero, List.set_cons_succ]
            refine wpAnyH_ready (rs := [10]) (by kernel_rfl) (by simp) ?_
            refine AllReadyH.cons (o := _) rfl (fun K hK => ?_) AllReadyH.nil
            go_simp
            refine (HLN.out _).mono ?_
            rintro e y3 ⟨rfl, hx⟩
            have hy : Below y2.heap.size y2 y3 := (by first | exact hx | exact bel_then (bel_d (Below.refl y2.heap.size y2)) hx)
            clear hx
            have hn3 := bel_then hn2 hy
            have Gz3 := Lib.hid (Gz2.out.below hy)
            have Gp3 := Lib.hid (Gp2.out.below hy)
            clear hy hn2 Gz2 Gp2
            go_wp2_with fail
            refine hK.out _ _ (KS.out _ hn3) (fun hHeld => ?_)
            clear hK K
            try simp only [Act.put, List.setIfInBounds_toArray, List.set_cons_zero, List.set_cons_succ]
            refine wpAnyH_takeD (i := 11) (some 126) (v := ?_) rfl rfl (by kernel_rfl) (by kernel_rfl) (by kernel_rfl) (fun _ _ _ h => h) (Or.inl ⟨by rfl, ?_⟩) (by assumption) ?_
            rotate_left
            · (intro w hSw; (try dsimp only at hSw); go_simp; try with_reducible rfl)
            try simp only [Act.put, List.setIfInBounds_toArray, List.set_cons_zero, List.set_cons_succ]
            refine wpAnyH_takeD (i := 12) (some 138) (v := ?_) rfl rfl (by kernel_rfl) (by kernel_rfl) (by kernel_rfl) (fun _ _ _ h => h) (Or.inl ⟨by rfl, ?_⟩) (by assumption) ?_
            rotate_left
            · (intro w hSw; (try dsimp only at hSw); go_simp; try with_reducible rfl)
            try simp only [Act.put, List.setIfInBounds_toArray, List.set_cons_zero, List.set_cons_succ]
            refine wpAnyH_takeD (i := 13) (some 139) (v := ?_) rfl rfl (by kernel_rfl) (by kernel_rfl) (by kernel_rfl) (fun _ _ _ h => h) (Or.inl ⟨by rfl, ?_⟩) (by assumption) ?_
            rotate_left
            · (intro w hSw; (try dsimp only at hSw); go_simp; try with_reducible rfl)
            try simp only [Act.put, List.setIfInBounds_toArray, List.set_cons_zero, List.set_cons_succ]
            refine wpAnyH_takeD (i := 14) (some 140) (v := ?_) rfl rfl (by kernel_rfl) (by kernel_rfl) (by kernel_rfl) (fun _ _ _ h => h) (Or.inl ⟨by rfl, ?_⟩) (by assumption) ?_
            rotate_left
            · (intro w hSw; (try dsimp only at hSw); go_simp; try with_reducible rfl)
            try simp only [Act.put, List.setIfInBounds_toArray, List.set_cons_zero, List.set_cons_succ]
            refine wpAnyH_ready (rs := [17]) (by kernel_rfl) (by simp) ?_
            refine AllReadyH.cons (o := _) rfl (fun K hK => ?_) AllReadyH.nil
            rw [if_pos (by rfl)]
            have q8 : BlkV y3 gp 31 [.int .u32 0, .int .u32 0] := Gp3.out
            refine wp_stB 31 _ _ rfl (by rfl) (by rfl) _ (by rfl) q8 (by rfl) (shift_size (by rfl)) (by rfl) ?_
            intro z8 Z8 O8
            have q9 : BlkV z8 gz 29 [.int .i64 0, .int .i64 0, .int .u32 0, .int .u32 0, .int .i64 0, .int .i64 0, .int .i64 0, .slice none 0 0, .slice none 0 0] := BlkV.only (show BlkV y3 gz 29 [.int .i64 0, .int .i64 0, .int .u32 0, .int .u32 0, .int .i64 0, .int .i64 0, .int .i64 0, .slice none 0 0, .slice none 0 0] from Gz3.out) O8 (fun h => NE.out h.symm)
            have hz8 := O8.bel Lp.out hn3
            clear q8 O8
            refine hK.out _ _ (KS.out _ hz8) (fun hHeld => ?_)
            clear hK K
            try simp only [Act.put, List.setIfInBounds_toArray, List.set_cons_zero, List.set_cons_succ]
            refine wpAnyH_ready (rs := [18]) (by kernel_rfl) (by simp) ?_
            refine AllReadyH.cons (o := _) rfl (fun K hK => ?_) AllReadyH.nil
            rw [if_pos (by rfl)]
            have q9' : BlkV z8 gz 29 [.int .i64 0, .int .i64 0, .int .u32 0, .int .u32 0, .int .i64 0, .int .i64 0, .int .i64 0, .slice none 0 0, .slice none 0 0] := q9
            refine wp_stB 29 _ _ rfl (by rfl) (by rfl) _ (by rfl) q9' (by rfl) (tcp_size (by rfl)) (by rfl) ?_
            intro z9 Z9 O9
            have Z8' := BlkV.only (show BlkV z8 gp 31 _ from Z8) O9 NE.out
            have hz9 := O9.bel Lz.out hz8
            have Z8h := Lib.hid Z8'
            have Z9h := Lib.hid Z9
            clear q9 q9' O9 Z8 Z8' Z9 hz8
            refine hK.out _ _ (KS.out _ hz9) (fun hHeld => ?_)
            clear hK K
            try simp only [Act.put, List.setIfInBounds_toArray, List.set_cons_zero, List.set_cons_succ]
            refine wpAnyH_takeD (i := 19) (some 28) (v := ?_) rfl rfl (by kernel_rfl) (by kernel_rfl) (by kernel_rfl) (fun _ _ _ h => h) (Or.inl ⟨by rfl, ?_⟩) (by assumption) ?_
            rotate_left
            · (intro w hSw; (try dsimp only at hSw); go_simp; try with_reducible rfl)
            try simp only [Act.put, List.setIfInBounds_toArray, List.set_cons_zero, List.set_cons_succ]
            refine wpAnyH_done (by kernel_rfl) ?_ _
            go_wp2_with fail
            go_meet
            exact ⟨gp, gz, rfl, rfl, rfl, hz9, Lp.out, Lz.out, Z8h.out, Z9h.out⟩
      · skip
        go_simp
        first | refine pk_gen (fun y1 hx => ?_) | refine pk_gend (fun y1 hx => ?_)
        have hy : Below V.heap.size V y1 := by rw [hx]; first | exact bel_a (Below.refl _ _) _ | exact bel_a (bel_d (Below.refl _ _)) _ | exact bel_d (bel_a (Below.refl _ _) _)
        obtain ⟨gp, hg⟩ : ∃ g, g = V.heap.size := ⟨_, rfl⟩
        have Gp1 : Hid (BlkV y1 gp 31 [.int .u32 0, .int .u32 0]) := Lib.hid (by rw [hx, hg]; first | exact BlkV.new_at _ _ _ rfl | exact BlkV.drewN (BlkV.new_at _ _ _ rfl) 1)
        have Lp := Lib.hid (show V.heap.size ≤ gp by rw [hg]; exact (hn0).size)
        rw [← hg]
        clear hx hg
        have hn1 := bel_then hn0 hy
        clear hy hn0 
        refine hK.out _ _ (KS.out _ hn1) (fun hHeld => ?_)
        clear hK K
        try simp only [Act.put, List.setIfInBounds_toArray, List.set_cons_zero, List.set_cons_succ]
        refine wpAnyH_ready (rs := [8, 16]) (by kernel_rfl) (by simp) ?_
        refine AllReadyH.cons (o := _) rfl (fun K hK => ?_) (AllReadyH.cons (o := _) rfl (fun K hK => ?_) AllReadyH.nil)
        · skip
          go_simp
          refine (HQ1.out _).mono ?_
          rintro e wx ⟨rfl, rfl⟩
          go_wp2_with fail
          refine hK.out _ _ (KS.out _ (by first | exact hn1 | exact bel_d hn1 | exact bel_d (bel_d hn1))) (fun hHeld => ?_)
          clear hK K
          try simp only [Act.put, List.setIfInBounds_toArray, List.set_cons_zero, List.set_cons_succ]
          refine wpAnyH_takeD (i := 9) (some 136) (v := ?_) rfl rfl (by kernel_rfl) (by kernel_rfl) (by kernel_rfl) (fun _ _ _ h => h) (Or.inl ⟨by rfl, ?_⟩) (by assumption) ?_
          rotate_left
          · (intro w hSw; (try dsimp only at hSw); go_simp; try with_reducible rfl)
          try simp only [Act.put, List.setIfInBounds_toArray, List.set_cons_zero, List.set_cons_succ]
          refine wpAnyH_ready (rs := [10, 16]) (by kernel_rfl) (by simp) ?_
          refine AllReadyH.cons (o := _) rfl (fun K hK => ?_) (AllReadyH.cons (o := _) rfl (fun K hK => ?_) AllReadyH.nil)
          · skip
            go_simp
            refine (HLN.out _).mono ?_
            rintro e y2 ⟨rfl, hx⟩
            have hy : Below y1.heap.size y1 y2 := (by first | exact hx | exact bel_then (bel_d (Below.refl y1.heap.size y1)) hx)
            clear hx
            have hn2 := bel_then hn1 hy
            have Gp2 := Lib.hid (Gp1.out.below hy)
            clear hy hn1 Gp1
            go_wp2_with fail
            refine hK.out _ _ (KS.out _ hn2) (fun hHeld => ?_)
            clear hK K
            try simp only [Act.put, List.setIfInBounds_toArray, List.set_cons_zero, List.set_cons_succ]
            refine wpAnyH_takeD (i := 11) (some 126) (v := ?_) rfl rfl (by kernel_rfl) (by kernel_rfl) (by kernel_rfl) (fun _ _ _ h => h) (Or.inl ⟨by rfl, ?_⟩) (by assumption) ?_
            rotate_left
            · (intro w hSw; (try dsimp only at hSw); go_simp; try with_reducible rfl)
            try simp only [Act.put, List.setIfInBounds_toArray, List.set_cons_zero, List.set_cons_succ]
            refine wpAnyH_takeD (i := 12) (some 138) (v := ?_) rfl rfl (by kernel_rfl) (by kernel_rfl) (by kernel_rfl) (fun _ _ _ h => h) (Or.inl ⟨by rfl, ?_⟩) (by assumption) ?_
            rotate_left
            · (intro w hSw; (try dsimp only at hSw); go_simp; try with_reducible rfl)
            try simp only [Act.put, List.setIfInBounds_toArray, List.set_cons_zero, List.set_cons_succ]
            refine wpAnyH_takeD (i := 13) (some 139) (v := ?_) rfl rfl (by kernel_rfl) (by kernel_rfl) (by kernel_rfl) (fun _ _ _ h => h) (Or.inl ⟨by rfl, ?_⟩) (by assumption) ?_
            rotate_left
            · (intro w hSw; (try dsimp only at hSw); go_simp; try with_reducible rfl)
            try simp only [Act.put, List.setIfInBounds_toArray, List.set_cons_zero, List.set_cons_succ]
            refine wpAnyH_takeD (i := 14) (some 140) (v := ?_) rfl rfl (by kernel_rfl) (by kernel_rfl) (by kernel_rfl) (fun _ _ _ h => h) (Or.inl ⟨by rfl, ?_⟩) (by assumption) ?_
            rotate_left
            · (intro w hSw; (try dsimp only at hSw); go_simp; try with_reducible rfl)
            try simp only [Act.put, List.setIfInBounds_toArray, List.set_cons_zero, List.set_cons_succ]
            refine wpAnyH_ready (rs := [16]) (by kernel_rfl) (by simp) ?_
            refine AllReadyH.cons (o := _) rfl (fun K hK => ?_) AllReadyH.nil
            go_simp
            first | refine pk_gen (fun y3 hx => ?_) | refine pk_gend (fun y3 hx => ?_)
            have hy : Below y2.heap.size y2 y3 := by rw [hx]; first | exact bel_a (Below.refl _ _) _ | exact bel_a (bel_d (Below.refl _ _)) _ | exact bel_d (bel_a (Below.refl _ _) _)
            obtain ⟨gz, hg⟩ : ∃ g, g = y2.heap.size := ⟨_, rfl⟩
            have Gz3 : Hid (BlkV y3 gz 29 [.int .i64 0, .int .i64 0, .int .u32 0, .int .u32 0, .int .i64 0, .int .i64 0, .int .i64 0, .slice none 0 0, .slice none 0 0]) := Lib.hid (by rw [hx, hg]; first | exact BlkV.new_at _ _ _ rfl | exact BlkV.drewN (BlkV.new_at _ _ _ rfl) 1)
            have Lz := Lib.hid (show V.heap.size ≤ gz by rw [hg]; exact (hn2).size)
            have NE := Lib.hid (show gp ≠ gz by have := Gp2.out.lt; omega)
            rw [← hg]
            clear hx hg
            have hn3 := bel_then hn2 hy
            have Gp3 := Lib.hid (Gp2.out.below hy)
            clear hy hn2 Gp2
            refine hK.out _ _ (KS.out _ hn3) (fun hHeld => ?_)
            clear hK K
            try simp only [Act.put, List.setIfInBounds_toArray, List.set_cons_zero, List.set_cons_succ]
            refine wpAnyH_ready (rs := [17]) (by kernel_rfl) (by simp) ?_
            refine AllReadyH.cons (o := _) rfl (fun K hK => ?_) AllReadyH.nil
            rw [if_pos (by rfl)]
            have q8 : BlkV y3 gp 31 [.int .u32 0, .int .u32 0] := Gp3.out
            refine wp_stB 31 _ _ rfl (by rfl) (by rfl) _ (by rfl) q8 (by rfl) (shift_size (by rfl)) (by rfl) ?_
            intro z8 Z8 O8
            have q9 : BlkV z8 gz 29 [.int .i64 0, .int .i64 0, .int .u32 0, .int .u32 0, .int .i64 0, .int .i64 0, .int .i64 0, .slice none 0 0, .slice none 0 0] := BlkV.only (show BlkV y3 gz 29 [.int .i64 0, .int .i64 0, .int .u32 0, .int .u32 0, .int .i64 0, .int .i64 0, .int .i64 0, .slice none 0 0, .slice none 0 0] from Gz3.out) O8 (fun h => NE.out h.symm)
            have hz8 := O8.bel Lp.out hn3
            clear q8 O8
            refine hK.out _ _ (KS.out _ hz8) (fun hHeld => ?_)
            clear hK K
            try simp only [Act.put, List.setIfInBounds_toArray, List.set_cons_zero, List.set_cons_succ]
            refine wpAnyH_ready (rs := [18]) (by kernel_rfl) (by simp) ?_
            refine AllReadyH.cons (o := _) rfl (fun K hK => ?_) AllReadyH.nil
            rw [if_pos (by rfl)]
            have q9' : BlkV z8 gz 29 [.int .i64 0, .int .i64 0, .int .u32 0, .int .u32 0, .int .i64 0, .int .i64 0, .int .i64 0, .slice none 0 0, .slice none 0 0] := q9
            refine wp_stB 29 _ _ rfl (by rfl) (by rfl) _ (by rfl) q9' (by rfl) (tcp_size (by rfl)) (by rfl) ?_
            intro z9 Z9 O9
            have Z8' := BlkV.only (show BlkV z8 gp 31 _ from Z8) O9 NE.out
            have hz9 := O9.bel Lz.out hz8
            have Z8h := Lib.hid Z8'
            have Z9h := Lib.hid Z9
            clear q9 q9' O9 Z8 Z8' Z9 hz8
            refine hK.out _ _ (KS.out _ hz9) (fun hHeld => ?_)
            clear hK K
            try simp only [Act.put, List.setIfInBounds_toArray, List.set_cons_zero, List.set_cons_succ]
            refine wpAnyH_takeD (i := 19) (some 28) (v := ?_) rfl rfl (by kernel_rfl) (by kernel_rfl) (by kernel_rfl) (fun _ _ _ h => h) (Or.inl ⟨by rfl, ?_⟩) (by assumption) ?_
            rotate_left
            · (intro w hSw; (try dsimp only at hSw); go_simp; try with_reducible rfl)
            try simp only [Act.put, List.setIfInBounds_toArray, List.set_cons_zero, List.set_cons_succ]
            refine wpAnyH_done (by kernel_rfl) ?_ _
            go_wp2_with fail
            go_meet
            exact ⟨gp, gz, rfl, rfl, rfl, hz9, Lp.out, Lz.out, Z8h.out, Z9h.out⟩
          · skip
            go_simp
            first | refine pk_gen (fun y2 hx => ?_) | refine pk_gend (fun y2 hx => ?_)
            have hy : Below y1.heap.size y1 y2 := by rw [hx]; first | exact bel_a (Below.refl _ _) _ | exact bel_a (bel_d (Below.refl _ _)) _ | exact bel_d (bel_a (Below.refl _ _) _)
            obtain ⟨gz, hg⟩ : ∃ g, g = y1.heap.size := ⟨_, rfl⟩
            have Gz2 : Hid (BlkV y2 gz 29 [.int .i64 0, .int .i64 0, .int .u32 0, .int .u32 0, .int .i64 0, .int .i64 0, .int .i64 0, .slice none 0 0, .slice none 0 0]) := Lib.hid (by rw [hx, hg]; first | exact BlkV.new_at _ _ _ rfl | exact BlkV.drewN (BlkV.new_at _ _ _ rfl) 1)
            have Lz := Lib.hid (show V.heap.size ≤ gz by rw [hg]; exact (hn1).size)
            have NE := Lib.hid (show gp ≠ gz by have := Gp1.out.lt; omega)
            rw [← hg]
            clear hx hg
            have hn2 := bel_then hn1 hy
            have Gp2 := Lib.hid (Gp1.out.below hy)
            clear hy hn1 Gp1
            refine hK.out _ _ (KS.out _ hn2) (fun hHeld => ?_)
            clear hK K
            try simp only [Act.put, List.setIfInBounds_toArray, List.set_cons_zero, List.set_cons_succ]
            refine wpAnyH_ready (rs := [10]) (by kernel_rfl) (by simp) ?_
            refine AllReadyH.cons (o := _) rfl (fun K hK => ?_) AllReadyH.nil
            go_simp
            refine (HLN.out _).mono ?_
            rintro e y3 ⟨rfl, hx⟩
            have hy : Below y2.heap.size y2 y3 := (by first | exact hx | exact bel_then (bel_d (Below.refl y2.heap.size y2)) hx)
            clear hx
            have hn3 := bel_then hn2 hy
            have Gp3 := Lib.hid (Gp2.out.below hy)
            have Gz3 := Lib.hid (Gz2.out.below hy)
            clear hy hn2 Gp2 Gz2
            go_wp2_with fail
            refine hK.out _ _ (KS.out _ hn3) (fun hHeld => ?_)
            clear hK K
            try simp only [Act.put, List.setIfInBounds_toArray, List.set_cons_zero, List.set_cons_succ]
            refine wpAnyH_takeD (i := 11) (some 126) (v := ?_) rfl rfl (by kernel_rfl) (by kernel_rfl) (by kernel_rfl) (fun _ _ _ h => h) (Or.inl ⟨by rfl, ?_⟩) (by assumption) ?_
            rotate_left
            · (intro w hSw; (try dsimp only at hSw); go_simp; try with_reducible rfl)
            try simp only [Act.put, List.setIfInBounds_toArray, List.set_cons_zero, List.set_cons_succ]
            refine wpAnyH_takeD (i := 12) (some 138) (v := ?_) rfl rfl (by kernel_rfl) (by kernel_rfl) (by kernel_rfl) (fun _ _ _ h => h) (Or.inl ⟨by rfl, ?_⟩) (by assumption) ?_
            rotate_left
            · (intro w hSw; (try dsimp only at hSw); go_simp; try with_reducible rfl)
            try simp only [Act.put, List.setIfInBounds_toArray, List.set_cons_zero, List.set_cons_succ]
            refine wpAnyH_takeD (i := 13) (some 139) (v := ?_) rfl rfl (by kernel_rfl) (by kernel_rfl) (by kernel_rfl) (fun _ _ _ h => h) (Or.inl ⟨by rfl, ?_⟩) (by assumption) ?_
            rotate_left
            · (intro w hSw; (try dsimp only at hSw); go_simp; try with_reducible rfl)
            try simp only [Act.put, List.setIfInBounds_toArray, List.set_cons_zero, List.set_cons_succ]
            refine wpAnyH_takeD (i := 14) (some 140) (v := ?_) rfl rfl (by kernel_rfl) (by kernel_rfl) (by kernel_rfl) (fun _ _ _ h => h) (Or.inl ⟨by rfl, ?_⟩) (by assumption) ?_
            rotate_left
            · (intro w hSw; (try dsimp only at hSw); go_simp; try with_reducible rfl)
            try simp only [Act.put, List.setIfInBounds_toArray, List.set_cons_zero, List.set_cons_succ]
            refine wpAnyH_ready (rs := [17]) (by kernel_rfl) (by simp) ?_
            refine AllReadyH.cons (o := _) rfl (fun K hK => ?_) AllReadyH.nil
            rw [if_pos (by rfl)]
            have q8 : BlkV y3 gp 31 [.int .u32 0, .int .u32 0] := Gp3.out
            refine wp_stB 31 _ _ rfl (by rfl) (by rfl) _ (by rfl) q8 (by rfl) (shift_size (by rfl)) (by rfl) ?_
            intro z8 Z8 O8
            have q9 : BlkV z8 gz 29 [.int .i64 0, .int .i64 0, .int .u32 0, .int .u32 0, .int .i64 0, .int .i64 0, .int .i64 0, .slice none 0 0, .slice none 0 0] := BlkV.only (show BlkV y3 gz 29 [.int .i64 0, .int .i64 0, .int .u32 0, .int .u32 0, .int .i64 0, .int .i64 0, .int .i64 0, .slice none 0 0, .slice none 0 0] from Gz3.out) O8 (fun h => NE.out h.symm)
            have hz8 := O8.bel Lp.out hn3
            clear q8 O8
            refine hK.out _ _ (KS.out _ hz8) (fun hHeld => ?_)
            clear hK K
            try simp only [Act.put, List.setIfInBounds_toArray, List.set_cons_zero, List.set_cons_succ]
            refine wpAnyH_ready (rs := [18]) (by kernel_rfl) (by simp) ?_
            refine AllReadyH.cons (o := _) rfl (fun K hK => ?_) AllReadyH.nil
            rw [if_pos (by rfl)]
            have q9' : BlkV z8 gz 29 [.int .i64 0, .int .i64 0, .int .u32 0, .int .u32 0, .int .i64 0, .int .i64 0, .int .i64 0, .slice none 0 0, .slice none 0 0] := q9
            refine wp_stB 29 _ _ rfl (by rfl) (by rfl) _ (by rfl) q9' (by rfl) (tcp_size (by rfl)) (by rfl) ?_
            intro z9 Z9 O9
            have Z8' := BlkV.only (show BlkV z8 gp 31 _ from Z8) O9 NE.out
            have hz9 := O9.bel Lz.out hz8
            have Z8h := Lib.hid Z8'
            have Z9h := Lib.hid Z9
            clear q9 q9' O9 Z8 Z8' Z9 hz8
            refine hK.out _ _ (KS.out _ hz9) (fun hHeld => ?_)
            clear hK K
            try simp only [Act.put, List.setIfInBounds_toArray, List.set_cons_zero, List.set_cons_succ]
            refine wpAnyH_takeD (i := 19) (some 28) (v := ?_) rfl rfl (by kernel_rfl) (by kernel_rfl) (by kernel_rfl) (fun _ _ _ h => h) (Or.inl ⟨by rfl, ?_⟩) (by assumption) ?_
            rotate_left
            · (intro w hSw; (try dsimp only at hSw); go_simp; try with_reducible rfl)
            try simp only [Act.put, List.setIfInBounds_toArray, List.set_cons_zero, List.set_cons_succ]
            refine wpAnyH_done (by kernel_rfl) ?_ _
            go_wp2_with fail
            go_meet
            exact ⟨gp, gz, rfl, rfl, rfl, hz9, Lp.out, Lz.out, Z8h.out, Z9h.out⟩
        · skip
          go_simp
          first | refine pk_gen (fun y2 hx => ?_) | refine pk_gend (fun y2 hx => ?_)
          have hy : Below y1.heap.size y1 y2 := by rw [hx]; first | exact bel_a (Below.refl _ _) _ | exact bel_a (bel_d (Below.refl _ _)) _ | exact bel_d (bel_a (Below.refl _ _) _)
          obtain ⟨gz, hg⟩ : ∃ g, g = y1.heap.size := ⟨_, rfl⟩
          have Gz2 : Hid (BlkV y2 gz 29 [.int .i64 0, .int .i64 0, .int .u32 0, .int .u32 0, .int .i64 0, .int .i64 0, .int .i64 0, .slice none 0 0, .slice none 0 0]) := Lib.hid (by rw [hx, hg]; first | exact BlkV.new_at _ _ _ rfl | exact BlkV.drewN (BlkV.new_at _ _ _ rfl) 1)
          have Lz := Lib.hid (show V.heap.size ≤ gz by rw [hg]; exact (hn1).size)
          have NE := Lib.hid (show gp ≠ gz by have := Gp1.out.lt; omega)
          rw [← hg]
          clear hx hg
          have hn2 := bel_then hn1 hy
          have Gp2 := Lib.hid (Gp1.out.below hy)
          clear hy hn1 Gp1
          refine hK.out _ _ (KS.out _ hn2) (fun hHeld => ?_)
          clear hK K
          try simp only [Act.put, List.setIfInBounds_toArray, List.set_cons_zero, List.set_cons_succ]
          refine wpAnyH_ready (rs := [8]) (by kernel_rfl) (by simp) ?_
          refine AllReadyH.cons (o := _) rfl (fun K hK => ?_) AllReadyH.nil
          go_simp
          refine (HQ1.out _).mono ?_
          rintro e wx ⟨rfl, rfl⟩
          go_wp2_with fail
          refine hK.out _ _ (KS.out _ (by first | exact hn2 | exact bel_d hn2 | exact bel_d (bel_d hn2))) (fun hHeld => ?_)
          clear hK K
          try simp only [Act.put, List.setIfInBounds_toArray, List.set_cons_zero, List.set_cons_succ]
          refine wpAnyH_takeD (i := 9) (some 136) (v := ?_) rfl rfl (by kernel_rfl) (by kernel_rfl) (by kernel_rfl) (fun _ _ _ h => h) (Or.inl ⟨by rfl, ?_⟩) (by assumption) ?_
          rotate_left
          · (intro w hSw; (try dsimp only at hSw); go_simp; try with_reducible rfl)
          try simp only [Act.put, List.setIfInBounds_toArray, List.set_cons_zero, List.set_cons_succ]
          refine wpAnyH_ready (rs := [10]) (by kernel_rfl) (by simp) ?_
          refine AllReadyH.cons (o := _) rfl (fun K hK => ?_) AllReadyH.nil
          go_simp
          refine (HLN.out _).mono ?_
          rintro e y3 ⟨rfl, hx⟩
          have hy : Below y2.heap.size y2 y3 := (by first | exact hx | exact bel_then (bel_d (Below.refl y2.heap.size y2)) hx)
          clear hx
          have hn3 := bel_then hn2 hy
          have Gp3 := Lib.hid (Gp2.out.below hy)
          have Gz3 := Lib.hid (Gz2.out.below hy)
          clear hy hn2 Gp2 Gz2
          go_wp2_with fail
          refine hK.out _ _ (KS.out _ hn3) (fun hHeld => ?_)
          clear hK K
          try simp only [Act.put, List.setIfInBounds_toArray, List.set_cons_zero, List.set_cons_succ]
          refine wpAnyH_takeD (i := 11) (some 126) (v := ?_) rfl rfl (by kernel_rfl) (by kernel_rfl) (by kernel_rfl) (fun _ _ _ h => h) (Or.inl ⟨by rfl, ?_⟩) (by assumption) ?_
          rotate_left
          · (intro w hSw; (try dsimp only at hSw); go_simp; try with_reducible rfl)
          try simp only [Act.put, List.setIfInBounds_toArray, List.set_cons_zero, List.set_cons_succ]
          refine wpAnyH_takeD (i := 12) (some 138) (v := ?_) rfl rfl (by kernel_rfl) (by kernel_rfl) (by kernel_rfl) (fun _ _ _ h => h) (Or.inl ⟨by rfl, ?_⟩) (by assumption) ?_
          rotate_left
          · (intro w hSw; (try dsimp only at hSw); go_simp; try with_reducible rfl)
          try simp only [Act.put, List.setIfInBounds_toArray, List.set_cons_zero, List.set_cons_succ]
          refine wpAnyH_takeD (i := 13) (some 139) (v := ?_) rfl rfl (by kernel_rfl) (by kernel_rfl) (by kernel_rfl) (fun _ _ _ h => h) (Or.inl ⟨by rfl, ?_⟩) (by assumption) ?_
          rotate_left
          · (intro w hSw; (try dsimp only at hSw); go_simp; try with_reducible rfl)
          try simp only [Act.put, List.setIfInBounds_toArray, List.set_cons_zero, List.set_cons_succ]
          refine wpAnyH_takeD (i := 14) (some 140) (v := ?_) rfl rfl (by kernel_rfl) (by kernel_rfl) (by kernel_rfl) (fun _ _ _ h => h) (Or.inl ⟨by rfl, ?_⟩) (by assumption) ?_
          rotate_left
          · (intro w hSw; (try dsimp only at hSw); go_simp; try with_reducible rfl)
          try simp only [Act.put, List.setIfInBounds_toArray, List.set_cons_zero, List.set_cons_succ]
          refine wpAnyH_ready (rs := [17]) (by kernel_rfl) (by simp) ?_
          refine AllReadyH.cons (o := _) rfl (fun K hK => ?_) AllReadyH.nil
          rw [if_pos (by rfl)]
          have q8 : BlkV y3 gp 31 [.int .u32 0, .int .u32 0] := Gp3.out
          refine wp_stB 31 _ _ rfl (by rfl) (by rfl) _ (by rfl) q8 (by rfl) (shift_size (by rfl)) (by rfl) ?_
          intro z8 Z8 O8
          have q9 : BlkV z8 gz 29 [.int .i64 0, .int .i64 0, .int .u32 0, .int .u32 0, .int .i64 0, .int .i64 0, .int .i64 0, .slice none 0 0, .slice none 0 0] := BlkV.only (show BlkV y3 gz 29 [.int .i64 0, .int .i64 0, .int .u32 0, .int .u32 0, .int .i64 0, .int .i64 0, .int .i64 0, .slice none 0 0, .slice none 0 0] from Gz3.out) O8 (fun h => NE.out h.symm)
          have hz8 := O8.bel Lp.out hn3
          clear q8 O8
          refine hK.out _ _ (KS.out _ hz8) (fun hHeld => ?_)
          clear hK K
          try simp only [Act.put, List.setIfInBounds_toArray, List.set_cons_zero, List.set_cons_succ]
          refine wpAnyH_ready (rs := [18]) (by kernel_rfl) (by simp) ?_
          refine AllReadyH.cons (o := _) rfl (fun K hK => ?_) AllReadyH.nil
          rw [if_pos (by rfl)]
          have q9' : BlkV z8 gz 29 [.int .i64 0, .int .i64 0, .int .u32 0, .int .u32 0, .int .i64 0, .int .i64 0, .int .i64 0, .slice none 0 0, .slice none 0 0] := q9
          refine wp_stB 29 _ _ rfl (by rfl) (by rfl) _ (by rfl) q9' (by rfl) (tcp_size (by rfl)) (by rfl) ?_
          intro z9 Z9 O9
          have Z8' := BlkV.only (show BlkV z8 gp 31 _ from Z8) O9 NE.out
          have hz9 := O9.bel Lz.out hz8
          have Z8h := Lib.hid Z8'
          have Z9h := Lib.hid Z9
          clear q9 q9' O9 Z8 Z8' Z9 hz8
          refine hK.out _ _ (KS.out _ hz9) (fun hHeld => ?_)
          clear hK K
          try simp only [Act.put, List.setIfInBounds_toArray, List.set_cons_zero, List.set_cons_succ]
          refine wpAnyH_takeD (i := 19) (some 28) (v := ?_) rfl rfl (by kernel_rfl) (by kernel_rfl) (by kernel_rfl) (fun _ _ _ h => h) (Or.inl ⟨by rfl, ?_⟩) (by assumption) ?_
          rotate_left
          · (intro w hSw; (try dsimp only at hSw); go_simp; try with_reducible rfl)
          try simp only [Act.put, List.setIfInBounds_toArray, List.set_cons_zero, List.set_cons_succ]
          refine wpAnyH_done (by kernel_rfl) ?_ _
          go_wp2_with fail
          go_meet
          exact ⟨gp, gz, rfl, rfl, rfl, hz9, Lp.out, Lz.out, Z8h.out, Z9h.out⟩
      · skip
        go_simp
        first | refine pk_gen (fun y1 hx => ?_) | refine pk_gend (fun y1 hx => ?_)
        have hy : Below V.heap.size V y1 := by rw [hx]; first | exact bel_a (Below.refl _ _) _ | exact bel_a (bel_d (Below.refl _ _)) _ | exact bel_d (bel_a (Below.refl _ _) _)
        obtain ⟨gz, hg⟩ : ∃ g, g = V.heap.size := ⟨_, rfl⟩
        have Gz1 : Hid (BlkV y1 gz 29 [.int .i64 0, .int .i64 0, .int .u32 0, .int .u32 0, .int .i64 0, .int .i64 0, .int .i64 0, .slice none 0 0, .slice none 0 0]) := Lib.hid (by rw [hx, hg]; first | exact BlkV.new_at _ _ _ rfl | exact BlkV.drewN (BlkV.new_at _ _ _ rfl) 1)
        have Lz := Lib.hid (show V.heap.size ≤ gz by rw [hg]; exact (hn0).size)
        rw [← hg]
        clear hx hg
        have hn1 := bel_then hn0 hy
        clear hy hn0 
        refine hK.out _ _ (KS.out _ hn1) (fun hHeld => ?_)
        clear hK K
        try simp only [Act.put, List.setIfInBounds_toArray, List.set_cons_zero, List.set_cons_succ]
        refine wpAnyH_ready (rs := [8, 15]) (by kernel_rfl) (by simp) ?_
        refine AllReadyH.cons (o := _) rfl (fun K hK => ?_) (AllReadyH.cons (o := _) rfl (fun K hK => ?_) AllReadyH.nil)
        · skip
          go_simp
          refine (HQ1.out _).mono ?_
          rintro e wx ⟨rfl, rfl⟩
          go_wp2_with fail
          refine hK.out _ _ (KS.out _ (by first | exact hn1 | exact bel_d hn1 | exact bel_d (bel_d hn1))) (fun hHeld => ?_)
          clear hK K
          try simp only [Act.put, List.setIfInBounds_toArray, List.set_cons_zero, List.set_cons_succ]
          refine wpAnyH_takeD (i := 9) (some 136) (v := ?_) rfl rfl (by kernel_rfl) (by kernel_rfl) (by kernel_rfl) (fun _ _ _ h => h) (Or.inl ⟨by rfl, ?_⟩) (by assumption) ?_
          rotate_left
          · (intro w hSw; (try dsimp only at hSw); go_simp; try with_reducible rfl)
          try simp only [Act.put, List.setIfInBounds_toArray, List.set_cons_zero, List.set_cons_succ]
          refine wpAnyH_ready (rs := [10, 15]) (by kernel_rfl) (by simp) ?_
          refine AllReadyH.cons (o := _) rfl (fun K hK => ?_) (AllReadyH.cons (o := _) rfl (fun K hK => ?_) AllReadyH.nil)
          · skip
            go_simp
            refine (HLN.out _).mono ?_
            rintro e y2 ⟨rfl, hx⟩
            have hy : Below y1.heap.size y1 y2 := (by first | exact hx | exact bel_then (bel_d (Below.refl y1.heap.size y1)) hx)
            clear hx
            have hn2 := bel_then hn1 hy
            have Gz2 := Lib.hid (Gz1.out.below hy)
            clear hy hn1 Gz1
            go_wp2_with fail
            refine hK.out _ _ (KS.out _ hn2) (fun hHeld => ?_)
            clear hK K
            try simp only [Act.put, List.setIfInBounds_toArray, List.set_cons_zero, List.set_cons_succ]
            refine wpAnyH_takeD (i := 11) (some 126) (v := ?_) rfl rfl (by kernel_rfl) (by kernel_rfl) (by kernel_rfl) (fun _ _ _ h => h) (Or.inl ⟨by rfl, ?_⟩) (by assumption) ?_
            rotate_left
            · (intro w hSw; (try dsimp only at hSw); go_simp; try with_reducible rfl)
            try simp only [Act.put, List.setIfInBounds_toArray, List.set_cons_zero, List.set_cons_succ]
            refine wpAnyH_takeD (i := 12) (some 138) (v := ?_) rfl rfl (by kernel_rfl) (by kernel_rfl) (by kernel_rfl) (fun _ _ _ h => h) (Or.inl ⟨by rfl, ?_⟩) (by assumption) ?_
            rotate_left
            · (intro w hSw; (try dsimp only at hSw); go_simp; try with_reducible rfl)
            try simp only [Act.put, List.setIfInBounds_toArray, List.set_cons_zero, List.set_cons_succ]
            refine wpAnyH_takeD (i := 13) (some 139) (v := ?_) rfl rfl (by kernel_rfl) (by kernel_rfl) (by kernel_rfl) (fun _ _ _ h => h) (Or.inl ⟨by rfl, ?_⟩) (by assumption) ?_
            rotate_left
            · (intro w hSw; (try dsimp only at hSw); go_simp; try with_reducible rfl)
            try simp only [Act.put, List.setIfInBounds_toArray, List.set_cons_zero, List.set_cons_succ]
            refine wpAnyH_takeD (i := 14) (some 140) (v := ?_) rfl rfl (by kernel_rfl) (by kernel_rfl) (by kernel_rfl) (fun _ _ _ h => h) (Or.inl ⟨by rfl, ?_⟩) (by assumption) ?_
            rotate_left
            · (intro w hSw; (try dsimp only at hSw); go_simp; try with_reducible rfl)
            try simp only [Act.put, List.setIfInBounds_toArray, List.set_cons_zero, List.set_cons_succ]
            refine wpAnyH_ready (rs := [15]) (by kernel_rfl) (by simp) ?_
            refine AllReadyH.cons (o := _) rfl (fun K hK => ?_) AllReadyH.nil
            go_simp
            first | refine pk_gen (fun y3 hx => ?_) | refine pk_gend (fun y3 hx => ?_)
            have hy : Below y2.heap.size y2 y3 := by rw [hx]; first | exact bel_a (Below.refl _ _) _ | exact bel_a (bel_d (Below.refl _ _)) _ | exact bel_d (bel_a (Below.refl _ _) _)
            obtain ⟨gp, hg⟩ : ∃ g, g = y2.heap.size := ⟨_, rfl⟩
            have Gp3 : Hid (BlkV y3 gp 31 [.int .u32 0, .int .u32 0]) := Lib.hid (by rw [hx, hg]; first | exact BlkV.new_at _ _ _ rfl | exact BlkV.drewN (BlkV.new_at _ _ _ rfl) 1)
            have Lp := Lib.hid (show V.heap.size ≤ gp by rw [hg]; exact (hn2).size)
            have NE := Lib.hid (show gp ≠ gz by have := Gz2.out.lt; omega)
            rw [← hg]
            clear hx hg
            have hn3 := bel_then hn2 hy
            have Gz3 := Lib.hid (Gz2.out.below hy)
            clear hy hn2 Gz2
            refine hK.out _ _ (KS.out _ hn3) (fun hHeld => ?_)
            clear hK K
            try simp only [Act.put, List.setIfInBounds_toArray, List.set_cons_zero, List.set_cons_succ]
            refine wpAnyH_ready (rs := [17]) (by kernel_rfl) (by simp) ?_
            refine AllReadyH.cons (o := _) rfl (fun K hK => ?_) AllReadyH.nil
            rw [if_pos (by rfl)]
            have q8 : BlkV y3 gp 31 [.int .u32 0, .int .u32 0] := Gp3.out
            refine wp_stB 31 _ _ rfl (by rfl) (by rfl) _ (by rfl) q8 (by rfl) (shift_size (by rfl)) (by rfl) ?_
            intro z8 Z8 O8
            have q9 : BlkV z8 gz 29 [.int .i64 0, .int .i64 0, .int .u32 0, .int .u32 0, .int .i64 0, .int .i64 0, .int .i64 0, .slice none 0 0, .slice none 0 0] := BlkV.only (show BlkV y3 gz 29 [.int .i64 0, .int .i64 0, .int .u32 0, .int .u32 0, .int .i64 0, .int .i64 0, .int .i64 0, .slice none 0 0, .slice none 0 0] from Gz3.out) O8 (fun h => NE.out h.symm)
            have hz8 := O8.bel Lp.out hn3
            clear q8 O8
            refine hK.out _ _ (KS.out _ hz8) (fun hHeld => ?_)
            clear hK K
            try simp only [Act.put, List.setIfInBounds_toArray, List.set_cons_zero, List.set_cons_succ]
            refine wpAnyH_ready (rs := [18]) (by kernel_rfl) (by simp) ?_
            refine AllReadyH.cons (o := _) rfl (fun K hK => ?_) AllReadyH.nil
            rw [if_pos (by rfl)]
            have q9' : BlkV z8 gz 29 [.int .i64 0, .int .i64 0, .int .u32 0, .int .u32 0, .int .i64 0, .int .i64 0, .int .i64 0, .slice none 0 0, .slice none 0 0] := q9
            refine wp_stB 29 _ _ rfl (by rfl) (by rfl) _ (by rfl) q9' (by rfl) (tcp_size (by rfl)) (by rfl) ?_
            intro z9 Z9 O9
            have Z8' := BlkV.only (show BlkV z8 gp 31 _ from Z8) O9 NE.out
            have hz9 := O9.bel Lz.out hz8
            have Z8h := Lib.hid Z8'
            have Z9h := Lib.hid Z9
            clear q9 q9' O9 Z8 Z8' Z9 hz8
            refine hK.out _ _ (KS.out _ hz9) (fun hHeld => ?_)
            clear hK K
            try simp only [Act.put, List.setIfInBounds_toArray, List.set_cons_zero, List.set_cons_succ]
            refine wpAnyH_takeD (i := 19) (some 28) (v := ?_) rfl rfl (by kernel_rfl) (by kernel_rfl) (by kernel_rfl) (fun _ _ _ h => h) (Or.inl ⟨by rfl, ?_⟩) (by assumption) ?_
            rotate_left
            · (intro w hSw; (try dsimp only at hSw); go_simp; try with_reducible rfl)
            try simp only [Act.put, List.setIfInBounds_toArray, List.set_cons_zero, List.set_cons_succ]
            refine wpAnyH_done (by kernel_rfl) ?_ _
            go_wp2_with fail
            go_meet
            exact ⟨gp, gz, rfl, rfl, rfl, hz9, Lp.out, Lz.out, Z8h.out, Z9h.out⟩
          · skip
            go_simp
            first | refine pk_gen (fun y2 hx => ?_) | refine pk_gend (fun y2 hx => ?_)
            have hy : Below y1.heap.size y1 y2 := by rw [hx]; first | exact bel_a (Below.refl _ _) _ | exact bel_a (bel_d (Below.refl _ _)) _ | exact bel_d (bel_a (Below.refl _ _) _)
            obtain ⟨gp, hg⟩ : ∃ g, g = y1.heap.size := ⟨_, rfl⟩
            have Gp2 : Hid (BlkV y2 gp 31 [.int .u32 0, .int .u32 0]) := Lib.hid (by rw [hx, hg]; first | exact BlkV.new_at _ _ _ rfl | exact BlkV.drewN (BlkV.new_at _ _ _ rfl) 1)
            have Lp := Lib.hid (show V.heap.size ≤ gp by rw [hg]; exact (hn1).size)
            have NE := Lib.hid (show gp ≠ gz by have := Gz1.out.lt; omega)
            rw [← hg]
            clear hx hg
            have hn2 := bel_then hn1 hy
            have Gz2 := Lib.hid (Gz1.out.below hy)
            clear hy hn1 Gz1
            refine hK.out _ _ (KS.out _ hn2) (fun hHeld => ?_)
            clear hK K
            try simp only [Act.put, List.setIfInBounds_toArray, List.set_cons_zero, List.set_cons_succ]
            refine wpAnyH_ready (rs := [10]) (by kernel_rfl) (by simp) ?_
            refine AllReadyH.cons (o := _) rfl (fun K hK => ?_) AllReadyH.nil
            go_simp
            refine (HLN.out _).mono ?_
            rintro e y3 ⟨rfl, hx⟩
            have hy : Below y2.heap.size y2 y3 := (by first | exact hx | exact bel_then (bel_d (Below.refl y2.heap.size y2)) hx)
            clear hx
            have hn3 := bel_then hn2 hy
            have Gz3 := Lib.hid (Gz2.out.below hy)
            have Gp3 := Lib.hid (Gp2.out.below hy)
            clear hy hn2 Gz2 Gp2
            go_wp2_with fail
            refine hK.out _ _ (KS.out _ hn3) (fun hHeld => ?_)
            clear hK K
            try simp only [Act.put, List.setIfInBounds_toArray, List.set_cons_zero, List.set_cons_succ]
            refine wpAnyH_takeD (i := 11) (some 126) (v := ?_) rfl rfl (by kernel_rfl) (by kernel_rfl) (by kernel_rfl) (fun _ _ _ h => h) (Or.inl ⟨by rfl, ?_⟩) (by assumption) ?_
            rotate_left
            · (intro w hSw; (try dsimp only at hSw); go_simp; try with_reducible rfl)
            try simp only [Act.put, List.setIfInBounds_toArray, List.set_cons_zero, List.set_cons_succ]
            refine wpAnyH_takeD (i := 12) (some 138) (v := ?_) rfl rfl (by kernel_rfl) (by kernel_rfl) (by kernel_rfl) (fun _ _ _ h => h) (Or.inl ⟨by rfl, ?_⟩) (by assumption) ?_
            rotate_left
            · (intro w hSw; (try dsimp only at hSw); go_simp; try with_reducible rfl)
            try simp only [Act.put, List.setIfInBounds_toArray, List.set_cons_zero, List.set_cons_succ]
            refine wpAnyH_takeD (i := 13) (some 139) (v := ?_) rfl rfl (by kernel_rfl) (by kernel_rfl) (by kernel_rfl) (fun _ _ _ h => h) (Or.inl ⟨by rfl, ?_⟩) (by assumption) ?_
            rotate_left
            · (intro w hSw; (try dsimp only at hSw); go_simp; try with_reducible rfl)
            try simp only [Act.put, List.setIfInBounds_toArray, List.set_cons_zero, List.set_cons_succ]
            refine wpAnyH_takeD (i := 14) (some 140) (v := ?_) rfl rfl (by kernel_rfl) (by kernel_rfl) (by kernel_rfl) (fun _ _ _ h => h) (Or.inl ⟨by rfl, ?_⟩) (by assumption) ?_
            rotate_left
            · (intro w hSw; (try dsimp only at hSw); go_simp; try with_reducible rfl)
            try simp only [Act.put, List.setIfInBounds_toArray, List.set_cons_zero, List.set_cons_succ]
            refine wpAnyH_ready (rs := [17]) (by kernel_rfl) (by simp) ?_
            refine AllReadyH.cons (o := _) rfl (fun K hK => ?_) AllReadyH.nil
            rw [if_pos (by rfl)]
            have q8 : BlkV y3 gp 31 [.int .u32 0, .int .u32 0] := Gp3.out
            refine wp_stB 31 _ _ rfl (by rfl) (by rfl) _ (by rfl) q8 (by rfl) (shift_size (by rfl)) (by rfl) ?_
            intro z8 Z8 O8
            have q9 : BlkV z8 gz 29 [.int .i64 0, .int .i64 0, .int .u32 0, .int .u32 0, .int .i64 0, .int .i64 0, .int .i64 0, .slice none 0 0, .slice none 0 0] := BlkV.only (show BlkV y3 gz 29 [.int .i64 0, .int .i64 0, .int .u32 0, .int .u32 0, .int .i64 0, .int .i64 0, .int .i64 0, .slice none 0 0, .slice none 0 0] from Gz3.out) O8 (fun h => NE.out h.symm)
            have hz8 := O8.bel Lp.out hn3
            clear q8 O8
            refine hK.out _ _ (KS.out _ hz8) (fun hHeld => ?_)
            clear hK K
            try simp only [Act.put, List.setIfInBounds_toArray, List.set_cons_zero, List.set_cons_succ]
            refine wpAnyH_ready (rs := [18]) (by kernel_rfl) (by simp) ?_
            refine AllReadyH.cons (o := _) rfl (fun K hK => ?_) AllReadyH.nil
            rw [if_pos (by rfl)]
            have q9' : BlkV z8 gz 29 [.int .i64 0, .int .i64 0, .int .u32 0, .int .u32 0, .int .i64 0, .int .i64 0, .int .i64 0, .slice none 0 0, .slice none 0 0] := q9
            refine wp_stB 29 _ _ rfl (by rfl) (by rfl) _ (by rfl) q9' (by rfl) (tcp_size (by rfl)) (by rfl) ?_
            intro z9 Z9 O9
            have Z8' := BlkV.only (show BlkV z8 gp 31 _ from Z8) O9 NE.out
            have hz9 := O9.bel Lz.out hz8
            have Z8h := Lib.hid Z8'
            have Z9h := Lib.hid Z9
            clear q9 q9' O9 Z8 Z8' Z9 hz8
            refine hK.out _ _ (KS.out _ hz9) (fun hHeld => ?_)
            clear hK K
            try simp only [Act.put, List.setIfInBounds_toArray, List.set_cons_zero, List.set_cons_succ]
            refine wpAnyH_takeD (i := 19) (some 28) (v := ?_) rfl rfl (by kernel_rfl) (by kernel_rfl) (by kernel_rfl) (fun _ _ _ h => h) (Or.inl ⟨by rfl, ?_⟩) (by assumption) ?_
            rotate_left
            · (intro w hSw; (try dsimp only at hSw); go_simp; try with_reducible rfl)
            try simp only [Act.put, List.setIfInBounds_toArray, List.set_cons_zero, List.set_cons_succ]
            refine wpAnyH_done (by kernel_rfl) ?_ _
            go_wp2_with fail
            go_meet
            exact ⟨gp, gz, rfl, rfl, rfl, hz9, Lp.out, Lz.out, Z8h.out, Z9h.out⟩
        · skip
          go_simp
          first | refine pk_gen (fun y2 hx => ?_) | refine pk_gend (fun y2 hx => ?_)
          have hy : Below y1.heap.size y1 y2 := by rw [hx]; first | exact bel_a (Below.refl _ _) _ | exact bel_a (bel_d (Below.refl _ _)) _ | exact bel_d (bel_a (Below.refl _ _) _)
          obtain ⟨gp, hg⟩ : ∃ g, g = y1.heap.size := ⟨_, rfl⟩
          have Gp2 : Hid (BlkV y2 gp 31 [.int .u32 0, .int .u32 0]) := Lib.hid (by rw [hx, hg]; first | exact BlkV.new_at _ _ _ rfl | exact BlkV.drewN (BlkV.new_at _ _ _ rfl) 1)
          have Lp := Lib.hid (show V.heap.size ≤ gp by rw [hg]; exact (hn1).size)
          have NE := Lib.hid (show gp ≠ gz by have := Gz1.out.lt; omega)
          rw [← hg]
          clear hx hg
          have hn2 := bel_then hn1 hy
          have Gz2 := Lib.hid (Gz1.out.below hy)
          clear hy hn1 Gz1
          refine hK.out _ _ (KS.out _ hn2) (fun hHeld => ?_)
          clear hK K
          try simp only [Act.put, List.setIfInBounds_toArray, List.set_cons_zero, List.set_cons_succ]
          refine wpAnyH_ready (rs := [8]) (by kernel_rfl) (by simp) ?_
          refine AllReadyH.cons (o := _) rfl (fun K hK => ?_) AllReadyH.nil
          go_simp
          refine (HQ1.out _).mono ?_
          rintro e wx ⟨rfl, rfl⟩
          go_wp2_with fail
          refine hK.out _ _ (KS.out _ (by first | exact hn2 | exact bel_d hn2 | exact bel_d (bel_d hn2))) (fun hHeld => ?_)
          clear hK K
          try simp only [Act.put, List.setIfInBounds_toArray, List.set_cons_zero, List.set_cons_succ]
          refine wpAnyH_takeD (i := 9) (some 136) (v := ?_) rfl rfl (by kernel_rfl) (by kernel_rfl) (by kernel_rfl) (fun _ _ _ h => h) (Or.inl ⟨by rfl, ?_⟩) (by assumption) ?_
          rotate_left
          · (intro w hSw; (try dsimp only at hSw); go_simp; try with_reducible rfl)
          try simp only [Act.put, List.setIfInBounds_toArray, List.set_cons_zero, List.set_cons_succ]
          refine wpAnyH_ready (rs := [10]) (by kernel_rfl) (by simp) ?_
          refine AllReadyH.cons (o := _) rfl (fun K hK => ?_) AllReadyH.nil
          go_simp
          refine (HLN.out _).mono ?_
          rintro e y3 ⟨rfl, hx⟩
          have hy : Below y2.heap.size y2 y3 := (by first | exact hx | exact bel_then (bel_d (Below.refl y2.heap.size y2)) hx)
          clear hx
          have hn3 := bel_then hn2 hy
          have Gz3 := Lib.hid (Gz2.out.below hy)
          have Gp3 := Lib.hid (Gp2.out.below hy)
          clear hy hn2 Gz2 Gp2
          go_wp2_with fail
          refine hK.out _ _ (KS.out _ hn3) (fun hHeld => ?_)
          clear hK K
          try simp only [Act.put, List.setIfInBounds_toArray, List.set_cons_zero, List.set_cons_succ]
          refine wpAnyH_takeD (i := 11) (some 126) (v := ?_) rfl rfl (by kernel_rfl) (by kernel_rfl) (by kernel_rfl) (fun _ _ _ h => h) (Or.inl ⟨by rfl, ?_⟩) (by assumption) ?_
          rotate_left
          · (intro w hSw; (try dsimp only at hSw); go_simp; try with_reducible rfl)
          try simp only [Act.put, List.setIfInBounds_toArray, List.set_cons_zero, List.set_cons_succ]
          refine wpAnyH_takeD (i := 12) (some 138) (v := ?_) rfl rfl (by kernel_rfl) (by kernel_rfl) (by kernel_rfl) (fun _ _ _ h => h) (Or.inl ⟨by rfl, ?_⟩) (by assumption) ?_
          rotate_left
          · (intro w hSw; (try dsimp only at hSw); go_simp; try with_reducible rfl)
          try simp only [Act.put, List.setIfInBounds_toArray, List.set_cons_zero, List.set_cons_succ]
          refine wpAnyH_takeD (i := 13) (some 139) (v := ?_) rfl rfl (by kernel_rfl) (by kernel_rfl) (by kernel_rfl) (fun _ _ _ h => h) (Or.inl ⟨by rfl, ?_⟩) (by assumption) ?_
          rotate_left
          · (intro w hSw; (try dsimp only at hSw); go_simp; try with_reducible rfl)
          try simp only [Act.put, List.setIfInBounds_toArray, List.set_cons_zero, List.set_cons_succ]
          refine wpAnyH_takeD (i := 14) (some 140) (v := ?_) rfl rfl (by kernel_rfl) (by kernel_rfl) (by kernel_rfl) (fun _ _ _ h => h) (Or.inl ⟨by rfl, ?_⟩) (by assumption) ?_
          rotate_left
          · (intro w hSw; (try dsimp only at hSw); go_simp; try with_reducible rfl)
          try simp only [Act.put, List.setIfInBounds_toArray, List.set_cons_zero, List.set_cons_succ]
          refine wpAnyH_ready (rs := [17]) (by kernel_rfl) (by simp) ?_
          refine AllReadyH.cons (o := _) rfl (fun K hK => ?_) AllReadyH.nil
          rw [if_pos (by rfl)]
          have q8 : BlkV y3 gp 31 [.int .u32 0, .int .u32 0] := Gp3.out
          refine wp_stB 31 _ _ rfl (by rfl) (by rfl) _ (by rfl) q8 (by rfl) (shift_size (by rfl)) (by rfl) ?_
          intro z8 Z8 O8
          have q9 : BlkV z8 gz 29 [.int .i64 0, .int .i64 0, .int .u32 0, .int .u32 0, .int .i64 0, .int .i64 0, .int .i64 0, .slice none 0 0, .slice none 0 0] := BlkV.only (show BlkV y3 gz 29 [.int .i64 0, .int .i64 0, .int .u32 0, .int .u32 0, .int .i64 0, .int .i64 0, .int .i64 0, .slice none 0 0, .slice none 0 0] from Gz3.out) O8 (fun h => NE.out h.symm)
          have hz8 := O8.bel Lp.out hn3
          clear q8 O8
          refine hK.out _ _ (KS.out _ hz8) (fun hHeld => ?_)
          clear hK K
          try simp only [Act.put, List.setIfInBounds_toArray, List.set_cons_zero, List.set_cons_succ]
          refine wpAnyH_ready (rs := [18]) (by kernel_rfl) (by simp) ?_
          refine AllReadyH.cons (o := _) rfl (fun K hK => ?_) AllReadyH.nil
          rw [if_pos (by rfl)]
          have q9' : BlkV z8 gz 29 [.int .i64 0, .int .i64 0, .int .u32 0, .int .u32 0, .int .i64 0, .int .i64 0, .int .i64 0, .slice none 0 0, .slice none 0 0] := q9
          refine wp_stB 29 _ _ rfl (by rfl) (by rfl) _ (by rfl) q9' (by rfl) (tcp_size (by rfl)) (by rfl) ?_
          intro z9 Z9 O9
          have Z8' := BlkV.only (show BlkV z8 gp 31 _ from Z8) O9 NE.out
          have hz9 := O9.bel Lz.out hz8
          have Z8h := Lib.hid Z8'
          have Z9h := Lib.hid Z9
          clear q9 q9' O9 Z8 Z8' Z9 hz8
          refine hK.out _ _ (KS.out _ hz9) (fun hHeld => ?_)
          clear hK K
          try simp only [Act.put, List.setIfInBounds_toArray, List.set_cons_zero, List.set_cons_succ]
          refine wpAnyH_takeD (i := 19) (some 28) (v := ?_) rfl rfl (by kernel_rfl) (by kernel_rfl) (by kernel_rfl) (fun _ _ _ h => h) (Or.inl ⟨by rfl, ?_⟩) (by assumption) ?_
          rotate_left
          · (intro w hSw; (try dsimp only at hSw); go_simp; try with_reducible rfl)
          try simp only [Act.put, List.setIfInBounds_toArray, List.set_cons_zero, List.set_cons_succ]
          refine wpAnyH_done (by kernel_rfl) ?_ _
          go_wp2_with fail
          go_meet
          exact ⟨gp, gz, rfl, rfl, rfl, hz9, Lp.out, Lz.out, Z8h.out, Z9h.out⟩
  case rest =>
  obtain ⟨gp, gz, rfl, rfl, rfl, hb11, hgp, hgz, BS11, BZ11⟩ := hcut
  obtain ⟨w11, rfl⟩ : ∃ w11, w11 = wc := ⟨wc, rfl⟩
  have hb11' := bel_then HBV.out hb11
  have BA11 := BAV.below hb11
  have BQ11 := BQ10.below hb11
  have AO11 := Lib.hid (AOV.out.below hb11)
  have QO11 := Lib.hid (QOV.out.below hb11)
  clear KS HQ1 HLN hn0 BAV BQ10 AOV QOV BPV hb11
  have HR := HRNG.out
  have HP1 := Lib.hid (put_seg _ w11 AO11.out.okay HAS.out HR.2.2 HR.2.1 ⟨Int.le_refl 0, (by decide : (0 : Int) ≤ 65535)⟩ ⟨Int.le_refl 0, (by decide : (0 : Int) ≤ 65535)⟩ (show (0 : Int) ≤ 18 ∧ (18 : Int) ≤ 255 by decide))
  clear HR
  go_wp2_with (refine wpList_ldB 29 _ _ (by with_reducible rfl) rfl (by rfl) BA11 Tryd.underlying29 rfl (tcp_size (by rfl)) ?_)
  refine HP1.out.mono ?_
  rintro e w12 ⟨⟨v1, rfl⟩, hb12⟩
  have hb12' := bel_then hb11' hb12
  have BQ12 := BQ11.below hb12
  have BZ12 := BZ11.below hb12
  have BS12 := BS11.below hb12
  have QO12 := Lib.hid (QO11.out.below hb12)
  have HP2 := Lib.hid (put_seg _ w12 QO12.out.okay HQS.out HRNG.out.2.1 HRNG.out.2.2 HRNG.out.1 ⟨Int.le_refl 0, (by decide : (0 : Int) ≤ 65535)⟩ (show (0 : Int) ≤ 2 ∧ (2 : Int) ≤ 255 by decide))
  clear HP1 hb11' hb12 BA11 BQ11 BZ11 BS11 AO11 QO11
  go_wp2_with (refine wpList_ldB 29 _ _ (by with_reducible rfl) rfl (by rfl) BQ12 Tryd.underlying29 rfl (tcp_size (by rfl)) ?_)
  refine HP2.out.mono ?_
  rintro e w13 ⟨⟨v2, rfl⟩, hb13⟩
  have hb13' := bel_then hb12' hb13
  have BQ13 := BQ12.below hb13
  have BZ13 := BZ12.below hb13
  have BS13 := BS12.below hb13
  have HP3 := Lib.hid (tcp_put0 ⟨t.sp, t.dp, Seq.step t.sq 1, Seq.step sv 1, 16, win, 0, none, 0, 0, none, 0, 0, [], []⟩ w13 HRNG.out.2.1.1 HRNG.out.2.1.2 HRNG.out.2.2.1 HRNG.out.2.2.2 HRNG.out.1.1 HRNG.out.1.2 (Int.le_refl 0) (by decide : (0 : Int) ≤ 65535) (by decide : (0 : Int) ≤ 16) (by decide : (16 : Int) ≤ 255))
  clear HP2 hb12' hb13 BQ12 BZ12 BS12 QO12
  go_wp2_with (refine wpList_ldB 29 _ _ (by with_reducible rfl) rfl (by rfl) BZ13 Tryd.underlying29 rfl (tcp_size (by rfl)) ?_)
  refine HP3.out.mono ?_
  rintro e U ⟨⟨v3, rfl⟩, hb14⟩
  have hbU := bel_then hb13' hb14
  have BQU := BQ13.below hb14
  have BZU := BZ13.below hb14
  have BSU := BS13.below hb14
  have BTU := BT.below hbU
  clear HP3 hb13' hb14 BQ13 BZ13 BS13 BT
  have KS : Hid (∀ w' : World, Below U.heap.size U w' → (w'.cell? ⟨gq, 2, none⟩ = some (.int .u32 t.sq) ∧ w'.cell? ⟨w.heap.size + 1, 2, none⟩ = some (.int .u32 t.sq) ∧ w'.cell? ⟨gp, 0, none⟩ = some (.int .u32 ((sv - v) % 4294967296)) ∧ w'.cell? ⟨gz, 0, none⟩ = some (.int .i64 t.sp) ∧ w'.cell? ⟨gz, 1, none⟩ = some (.int .i64 t.dp) ∧ w'.cell? ⟨gz, 2, none⟩ = some (.int .u32 (Seq.step t.sq 1)) ∧ w'.cell? ⟨gz, 3, none⟩ = some (.int .u32 (Seq.step sv 1)) ∧ w'.cell? ⟨gz, 4, none⟩ = some (.int .i64 16) ∧ w'.cell? ⟨gz, 5, none⟩ = some (.int .i64 win) ∧ w'.cell? ⟨gz, 6, none⟩ = some (.int .i64 0) ∧ w'.cell? ⟨gz, 7, none⟩ = some (.slice none 0 0) ∧ w'.cell? ⟨gz, 8, none⟩ = some (.slice none 0 0))) := Lib.hid (by
    intro w' hb
    obtain ⟨c0, c1, c2, c3, c4, c5, c6, c7, c8⟩ := cells9' (BZU.below hb)
    exact ⟨(BQU.below hb).cell rfl, (BTU.below hb).cell rfl, (BSU.below hb).cell rfl, c0, c1, c2, c3, c4, c5, c6, c7, c8⟩)
  have HS2 := Lib.hid (fun w1 => seq_step v ((sv - v) % 4294967296) w1)
  have hsv : Seq.step v ((sv - v) % 4294967296) = sv := by have := HVB.out; (simp only [Seq.step]; omega)
  rw [hsv] at HS2
  have HS3 := Lib.hid (fun w1 => seq_step sv 1 w1)
  have HSI := Lib.hid (fun w1 => size_spec t.sp t.dp (Seq.step t.sq 1) (Seq.step sv 1) 16 win 0 none 0 0 none 0 0 w1 (by decide))
  rw [show State.size 0 16 = 0 by decide] at HSI
  have hn0 : Below U.heap.size U U := Below.refl _ _
  have HBU := Lib.hid hbU
  have hdr : ((sv - v) % 4294967296) ≤ 4294967295 := by omega
  have hdr0 : 0 ≤ (sv - v) % 4294967296 := by omega
  obtain ⟨dd, hdd⟩ : ∃ dd, dd = (sv - v) % 4294967296 := ⟨_, rfl⟩
  rw [← hdd] at KS HS2 hdr hdr0
  have hwd : IntKind.i64.wrap dd = dd := by rw [IntKind.wrap_i64]; omega
  clear BZU BQU BTU BSU hbU hsv hdd
  go_upto_region 17 with fail
  refine wp_region_held_drew (S := fun w' => (w'.cell? ⟨gq, 2, none⟩ = some (.int .u32 t.sq) ∧ w'.cell? ⟨w.heap.size + 1, 2, none⟩ = some (.int .u32 t.sq) ∧ w'.cell? ⟨gp, 0, none⟩ = some (.int .u32 dd) ∧ w'.cell? ⟨gz, 0, none⟩ = some (.int .i64 t.sp) ∧ w'.cell? ⟨gz, 1, none⟩ = some (.int .i64 t.dp) ∧ w'.cell? ⟨gz, 2, none⟩ = some (.int .u32 (Seq.step t.sq 1)) ∧ w'.cell? ⟨gz, 3, none⟩ = some (.int .u32 (Seq.step sv 1)) ∧ w'.cell? ⟨gz, 4, none⟩ = some (.int .i64 16) ∧ w'.cell? ⟨gz, 5, none⟩ = some (.int .i64 win) ∧ w'.cell? ⟨gz, 6, none⟩ = some (.int .i64 0) ∧ w'.cell? ⟨gz, 7, none⟩ = some (.slice none 0 0) ∧ w'.cell? ⟨gz, 8, none⟩ = some (.slice none 0 0))) (by kernel_rfl) (KS.out _ (bel_d hn0)) (fun hHeld => ?_)
  refine wpAnyH_takeD (i := 0) (some 156) (v := ?_) rfl rfl (by kernel_rfl) (by kernel_rfl) (by kernel_rfl) (fun _ _ _ h => h) (Or.inl ⟨by rfl, ?_⟩) (by assumption) ?_
  rotate_left
  · (intro w hSw; (try dsimp only at hSw); go_simp; try with_reducible rfl)
  try simp only [Act.put, List.setIfInBounds_toArray, List.set_cons_zero, List.set_cons_succ]
  refine wpAnyH_takeD (i := 1) (some 157) (v := ?_) rfl rfl (by kernel_rfl) (by kernel_rfl) (by kernel_rfl) (fun _ _ _ h => h) (Or.inl ⟨by rfl, ?_⟩) (by assumption) ?_
  rotate_left
  · (intro w hSw; (try dsimp only at hSw); go_simp; try with_reducible rfl)
  try simp only [Act.put, List.setIfInBounds_toArray, List.set_cons_zero, List.set_cons_succ]
  refine wpAnyH_takeD (i := 2) (some 158) (v := ?_) rfl rfl (by kernel_rfl) (by kernel_rfl) (by kernel_rfl) (fun _ _ _ h => h) (Or.inl ⟨by rfl, ?_⟩) (by assumption) ?_
  rotate_left
  · (intro w hSw; (try dsimp only at hSw); go_simp; try with_reducible rfl)
  try simp only [Act.put, List.setIfInBounds_toArray, List.set_cons_zero, List.set_cons_succ]
  refine wpAnyH_takeD (i := 3) (some 159) (v := ?_) rfl rfl (by kernel_rfl) (by kernel_rfl) (by kernel_rfl) (fun _ _ _ h => h) (Or.inl ⟨by rfl, ?_⟩) (by assumption) ?_
  rotate_left
  · (intro w hSw; (try dsimp only at hSw); go_simp; try with_reducible rfl)
  try simp only [Act.put, List.setIfInBounds_toArray, List.set_cons_zero, List.set_cons_succ]
  refine wpAnyH_takeD (i := 4) (some 160) (v := ?_) rfl rfl (by kernel_rfl) (by kernel_rfl) (by kernel_rfl) (fun _ _ _ h => h) (Or.inl ⟨by rfl, ?_⟩) (by assumption) ?_
  rotate_left
  · (intro w hSw; (try dsimp only at hSw); go_simp; try with_reducible rfl)
  try simp only [Act.put, List.setIfInBounds_toArray, List.set_cons_zero, List.set_cons_succ]
  refine wpAnyH_takeD (i := 5) (some 161) (v := ?_) rfl rfl (by kernel_rfl) (by kernel_rfl) (by kernel_rfl) (fun _ _ _ h => h) (Or.inl ⟨by rfl, ?_⟩) (by assumption) ?_
  rotate_left
  · (intro w hSw; (try dsimp only at hSw); go_simp; try with_reducible rfl)
  try simp only [Act.put, List.setIfInBounds_toArray, List.set_cons_zero, List.set_cons_succ]
  refine wpAnyH_takeD (i := 6) (some 162) (v := ?_) rfl rfl (by kernel_rfl) (by kernel_rfl) (by kernel_rfl) (fun _ _ _ h => h) (Or.inl ⟨by rfl, ?_⟩) (by assumption) ?_
  rotate_left
  · (intro w hSw; (try dsimp only at hSw); go_simp; try with_reducible rfl)
  try simp only [Act.put, List.setIfInBounds_toArray, List.set_cons_zero, List.set_cons_succ]
  refine wpAnyH_takeD (i := 7) (some 163) (v := ?_) rfl rfl (by kernel_rfl) (by kernel_rfl) (by kernel_rfl) (fun _ _ _ h => h) (Or.inl ⟨by rfl, ?_⟩) (by assumption) ?_
  rotate_left
  · (intro w hSw; (try dsimp only at hSw); go_simp; try with_reducible rfl)
  try simp only [Act.put, List.setIfInBounds_toArray, List.set_cons_zero, List.set_cons_succ]
  refine wpAnyH_takeD (i := 8) (some 164) (v := ?_) rfl rfl (by kernel_rfl) (by kernel_rfl) (by kernel_rfl) (fun _ _ _ h => h) (Or.inl ⟨by rfl, ?_⟩) (by assumption) ?_
  rotate_left
  · (intro w hSw; (try dsimp only at hSw); go_simp; try with_reducible rfl)
  try simp only [Act.put, List.setIfInBounds_toArray, List.set_cons_zero, List.set_cons_succ]
  refine wpAnyH_takeD (i := 9) (some 165) (v := ?_) rfl rfl (by kernel_rfl) (by kernel_rfl) (by kernel_rfl) (fun _ _ _ h => h) (Or.inl ⟨by rfl, ?_⟩) (by assumption) ?_
  rotate_left
  · (intro w hSw; (try dsimp only at hSw); go_simp; try with_reducible rfl)
  try simp only [Act.put, List.setIfInBounds_toArray, List.set_cons_zero, List.set_cons_succ]
  refine wpAnyH_takeD (i := 10) (some 166) (v := ?_) rfl rfl (by kernel_rfl) (by kernel_rfl) (by kernel_rfl) (fun _ _ _ h => h) (Or.inl ⟨by rfl, ?_⟩) (by assumption) ?_
  rotate_left
  · (intro w hSw; (try dsimp only at hSw); go_simp; try with_reducible rfl)
  try simp only [Act.put, List.setIfInBounds_toArray, List.set_cons_zero, List.set_cons_succ]
  refine wpAnyH_takeD (i := 11) (some 167) (v := ?_) rfl rfl (by kernel_rfl) (by kernel_rfl) (by kernel_rfl) (fun _ _ _ h => h) (Or.inl ⟨by rfl, ?_⟩) (by assumption) ?_
  rotate_left
  · (intro w hSw; (try dsimp only at hSw); go_simp; try with_reducible rfl)
  try simp only [Act.put, List.setIfInBounds_toArray, List.set_cons_zero, List.set_cons_succ]
  refine wpAnyH_takeD (i := 12) (some 168) (v := ?_) rfl rfl (by kernel_rfl) (by kernel_rfl) (by kernel_rfl) (fun _ _ _ h => h) (Or.inl ⟨by rfl, ?_⟩) (by assumption) ?_
  rotate_left
  · (intro w hSw; (try dsimp only at hSw); go_simp; try with_reducible rfl)
  try simp only [Act.put, List.setIfInBounds_toArray, List.set_cons_zero, List.set_cons_succ]
  refine wpAnyH_takeD (i := 13) (some 169) (v := ?_) rfl rfl (by kernel_rfl) (by kernel_rfl) (by kernel_rfl) (fun _ _ _ h => h) (Or.inl ⟨by rfl, ?_⟩) (by assumption) ?_
  rotate_left
  · (intro w hSw; (try dsimp only at hSw); go_simp; try with_reducible rfl)
  try simp only [Act.put, List.setIfInBounds_toArray, List.set_cons_zero, List.set_cons_succ]
  refine wpAnyH_takeD (i := 14) (some 170) (v := ?_) rfl rfl (by kernel_rfl) (by kernel_rfl) (by kernel_rfl) (fun _ _ _ h => h) (Or.inl ⟨by rfl, ?_⟩) (by assumption) ?_
  rotate_left
  · (intro w hSw; (try dsimp only at hSw); go_simp; try with_reducible rfl)
  try simp only [Act.put, List.setIfInBounds_toArray, List.set_cons_zero, List.set_cons_succ]
  refine wpAnyH_takeD (i := 15) (some 171) (v := ?_) rfl rfl (by kernel_rfl) (by kernel_rfl) (by kernel_rfl) (fun _ _ _ h => h) (Or.inl ⟨by rfl, ?_⟩) (by assumption) ?_
  rotate_left
  · (intro w hSw; (try dsimp only at hSw); go_simp; try with_reducible rfl)
  try simp only [Act.put, List.setIfInBounds_toArray, List.set_cons_zero, List.set_cons_succ]
  refine wpAnyH_takeD (i := 16) (some 172) (v := ?_) rfl rfl (by kernel_rfl) (by kernel_rfl) (by kernel_rfl) (fun _ _ _ h => h) (Or.inl ⟨by rfl, ?_⟩) (by assumption) ?_
  rotate_left
  · (intro w hSw; (try dsimp only at hSw); go_simp; try with_reducible rfl)
  try simp only [Act.put, List.setIfInBounds_toArray, List.set_cons_zero, List.set_cons_succ]
  refine wpAnyH_takeD (i := 17) (some 173) (v := ?_) rfl rfl (by kernel_rfl) (by kernel_rfl) (by kernel_rfl) (fun _ _ _ h => h) (Or.inl ⟨by rfl, ?_⟩) (by assumption) ?_
  rotate_left
  · (intro w hSw; (try dsimp only at hSw); go_simp; try with_reducible rfl)
  try simp only [Act.put, List.setIfInBounds_toArray, List.set_cons_zero, List.set_cons_succ]
  refine wpAnyH_takeD (i := 18) (some 174) (v := ?_) rfl rfl (by kernel_rfl) (by kernel_rfl) (by kernel_rfl) (fun _ _ _ h => h) (Or.inl ⟨by rfl, ?_⟩) (by assumption) ?_
  rotate_left
  · (intro w hSw; (try dsimp only at hSw); go_simp; try with_reducible rfl)
  try simp only [Act.put, List.setIfInBounds_toArray, List.set_cons_zero, List.set_cons_succ]
  refine wpAnyH_takeD (i := 19) (some 175) (v := ?_) rfl rfl (by kernel_rfl) (by kernel_rfl) (by kernel_rfl) (fun _ _ _ h => h) (Or.inl ⟨by rfl, ?_⟩) (by assumption) ?_
  rotate_left
  · (intro w hSw; (try dsimp only at hSw); go_simp; try with_reducible rfl)
  try simp only [Act.put, List.setIfInBounds_toArray, List.set_cons_zero, List.set_cons_succ]
  refine wpAnyH_takeD (i := 20) (some 176) (v := ?_) rfl rfl (by kernel_rfl) (by kernel_rfl) (by kernel_rfl) (fun _ _ _ h => h) (Or.inl ⟨by rfl, ?_⟩) (by assumption) ?_
  rotate_left
  · (intro w hSw; (try dsimp only at hSw); go_simp; try with_reducible rfl)
  try simp only [Act.put, List.setIfInBounds_toArray, List.set_cons_zero, List.set_cons_succ]
  refine wpAnyH_takeD (i := 21) (some 177) (v := ?_) rfl rfl (by kernel_rfl) (by kernel_rfl) (by kernel_rfl) (fun _ _ _ h => h) (Or.inl ⟨by rfl, ?_⟩) (by assumption) ?_
  rotate_left
  · (intro w hSw; (try dsimp only at hSw); go_simp; try with_reducible rfl)
  try simp only [Act.put, List.setIfInBounds_toArray, List.set_cons_zero, List.set_cons_succ]
  refine wpAnyH_takeD (i := 22) (some 178) (v := ?_) rfl rfl (by kernel_rfl) (by kernel_rfl) (by kernel_rfl) (fun _ _ _ h => h) (Or.inl ⟨by rfl, ?_⟩) (by assumption) ?_
  rotate_left
  · (intro w hSw; (try dsimp only at hSw); go_simp; try with_reducible rfl)
  try simp only [Act.put, List.setIfInBounds_toArray, List.set_cons_zero, List.set_cons_succ]
  refine wpAnyH_takeD (i := 23) (some 179) (v := ?_) rfl rfl (by kernel_rfl) (by kernel_rfl) (by kernel_rfl) (fun _ _ _ h => h) (Or.inl ⟨by rfl, ?_⟩) (by assumption) ?_
  rotate_left
  · (intro w hSw; (try dsimp only at hSw); go_simp; try with_reducible rfl)
  try simp only [Act.put, List.setIfInBounds_toArray, List.set_cons_zero, List.set_cons_succ]
  refine wpAnyH_takeD (i := 24) (some 180) (v := ?_) rfl rfl (by kernel_rfl) (by kernel_rfl) (by kernel_rfl) (fun _ _ _ h => h) (Or.inl ⟨by rfl, ?_⟩) (by assumption) ?_
  rotate_left
  · (intro w hSw; (try dsimp only at hSw); go_simp; try with_reducible rfl)
  try simp only [Act.put, List.setIfInBounds_toArray, List.set_cons_zero, List.set_cons_succ]
  refine wpAnyH_takeD (i := 25) (some 181) (v := ?_) rfl rfl (by kernel_rfl) (by kernel_rfl) (by kernel_rfl) (fun _ _ _ h => h) (Or.inl ⟨by rfl, ?_⟩) (by assumption) ?_
  rotate_left
  · (intro w hSw; (try dsimp only at hSw); go_simp; try with_reducible rfl)
  try simp only [Act.put, List.setIfInBounds_toArray, List.set_cons_zero, List.set_cons_succ]
  refine wpAnyH_takeD (i := 26) (some 182) (v := ?_) rfl rfl (by kernel_rfl) (by kernel_rfl) (by kernel_rfl) (fun _ _ _ h => h) (Or.inl ⟨by rfl, ?_⟩) (by assumption) ?_
  rotate_left
  · (intro w hSw; (try dsimp only at hSw); go_simp; try with_reducible rfl)
  try simp only [Act.put, List.setIfInBounds_toArray, List.set_cons_zero, List.set_cons_succ]
  refine wpAnyH_takeD (i := 27) (some 183) (v := ?_) rfl rfl (by kernel_rfl) (by kernel_rfl) (by kernel_rfl) (fun _ _ _ h => h) (Or.inl ⟨by rfl, ?_⟩) (by assumption) ?_
  rotate_left
  · (intro w hSw; (try dsimp only at hSw); go_simp; try with_reducible rfl)
  try simp only [Act.put, List.setIfInBounds_toArray, List.set_cons_zero, List.set_cons_succ]
  refine wpAnyH_takeD (i := 28) (some 184) (v := ?_) rfl rfl (by kernel_rfl) (by kernel_rfl) (by kernel_rfl) (fun _ _ _ h => h) (Or.inl ⟨by rfl, ?_⟩) (by assumption) ?_
  rotate_left
  · (intro w hSw; (try dsimp only at hSw); go_simp; try with_reducible rfl)
  try simp only [Act.put, List.setIfInBounds_toArray, List.set_cons_zero, List.set_cons_succ]
  refine wpAnyH_takeD (i := 29) (some 185) (v := ?_) rfl rfl (by kernel_rfl) (by kernel_rfl) (by kernel_rfl) (fun _ _ _ h => h) (Or.inl ⟨by rfl, ?_⟩) (by assumption) ?_
  rotate_left
  · (intro w hSw; (try dsimp only at hSw); go_simp; try with_reducible rfl)
  try simp only [Act.put, List.setIfInBounds_toArray, List.set_cons_zero, List.set_cons_succ]
  refine wpAnyH_takeD (i := 30) (some 186) (v := ?_) rfl rfl (by kernel_rfl) (by kernel_rfl) (by kernel_rfl) (fun _ _ _ h => h) (Or.inl ⟨by rfl, ?_⟩) (by assumption) ?_
  rotate_left
  · (intro w hSw; (try dsimp only at hSw); go_simp; try with_reducible rfl)
  try simp only [Act.put, List.setIfInBounds_toArray, List.set_cons_zero, List.set_cons_succ]
  refine wpAnyH_takeD (i := 31) (some 187) (v := ?_) rfl rfl (by kernel_rfl) (by kernel_rfl) (by kernel_rfl) (fun _ _ _ h => h) (Or.inl ⟨by rfl, ?_⟩) (by assumption) ?_
  rotate_left
  · (intro w hSw; (try dsimp only at hSw); go_simp; try with_reducible rfl)
  try simp only [Act.put, List.setIfInBounds_toArray, List.set_cons_zero, List.set_cons_succ]
  refine wpAnyH_takeD (i := 32) (some 188) (v := ?_) rfl rfl (by kernel_rfl) (by kernel_rfl) (by kernel_rfl) (fun _ _ _ h => h) (Or.inl ⟨by rfl, ?_⟩) (by assumption) ?_
  rotate_left
  · (intro w hSw; (try dsimp only at hSw); go_simp; try with_reducible rfl)
  try simp only [Act.put, List.setIfInBounds_toArray, List.set_cons_zero, List.set_cons_succ]
  refine wpAnyH_takeD (i := 33) (some 189) (v := ?_) rfl rfl (by kernel_rfl) (by kernel_rfl) (by kernel_rfl) (fun _ _ _ h => h) (Or.inl ⟨by rfl, ?_⟩) (by assumption) ?_
  rotate_left
  · (intro w hSw; (try dsimp only at hSw); go_simp; try with_reducible rfl)
  try simp only [Act.put, List.setIfInBounds_toArray, List.set_cons_zero, List.set_cons_succ]
  refine wpAnyH_takeD (i := 34) (some 190) (v := ?_) rfl rfl (by kernel_rfl) (by kernel_rfl) (by kernel_rfl) (fun _ _ _ h => h) (Or.inl ⟨by rfl, ?_⟩) (by assumption) ?_
  rotate_left
  · (intro w hSw; (try dsimp only at hSw); go_simp; try with_reducible rfl)
  try simp only [Act.put, List.setIfInBounds_toArray, List.set_cons_zero, List.set_cons_succ]
  refine wpAnyH_takeD (i := 35) (some 191) (v := ?_) rfl rfl (by kernel_rfl) (by kernel_rfl) (by kernel_rfl) (fun _ _ _ h => h) (Or.inl ⟨by rfl, ?_⟩) (by assumption) ?_
  rotate_left
  · (intro w hSw; (try dsimp only at hSw); go_simp; try with_reducible rfl)
  try simp only [Act.put, List.setIfInBounds_toArray, List.set_cons_zero, List.set_cons_succ]
  refine wpAnyH_takeD (i := 36) (some 192) (v := ?_) rfl rfl (by kernel_rfl) (by kernel_rfl) (by kernel_rfl) (fun _ _ _ h => h) (Or.inl ⟨by rfl, ?_⟩) (by assumption) ?_
  rotate_left
  · (intro w hSw; (try dsimp only at hSw); go_simp; try with_reducible rfl)
  try simp only [Act.put, List.setIfInBounds_toArray, List.set_cons_zero, List.set_cons_succ]
  refine wpAnyH_takeD (i := 37) (some 193) (v := ?_) rfl rfl (by kernel_rfl) (by kernel_rfl) (by kernel_rfl) (fun _ _ _ h => h) (Or.inl ⟨by rfl, ?_⟩) (by assumption) ?_
  rotate_left
  · (intro w hSw; (try dsimp only at hSw); go_simp; try with_reducible rfl)
  try simp only [Act.put, List.setIfInBounds_toArray, List.set_cons_zero, List.set_cons_succ]
  refine wpAnyH_takeD (i := 39) (some 195) (v := ?_) rfl rfl (by kernel_rfl) (by kernel_rfl) (by kernel_rfl) (fun _ _ _ h => h) (Or.inl ⟨by rfl, ?_⟩) (by assumption) ?_
  rotate_left
  · (intro w hSw; (try dsimp only at hSw); go_simp; try with_reducible rfl)
  try simp only [Act.put, List.setIfInBounds_toArray, List.set_cons_zero, List.set_cons_succ]
  refine wpAnyH_ready (rs := [38]) (by kernel_rfl) (by simp) ?_
  refine AllReadyH.cons (o := _) rfl (fun K hK => ?_) AllReadyH.nil
  go_simp
  refine (HS2.out _).mono ?_
  rintro e wx ⟨rfl, rfl⟩
  go_wp2_with fail
  refine hK.out _ _ (KS.out _ (bel_d hn0)) (fun hHeld => ?_)
  clear hK K
  try simp only [Act.put, List.setIfInBounds_toArray, List.set_cons_zero, List.set_cons_succ]
  refine wpAnyH_takeD (i := 40) (some 196) (v := ?_) rfl rfl (by kernel_rfl) (by kernel_rfl) (by kernel_rfl) (fun _ _ _ h => h) (Or.inl ⟨by rfl, ?_⟩) (by assumption) ?_
  rotate_left
  · (intro w hSw; (try dsimp only at hSw); go_simp; try with_reducible rfl)
  try simp only [Act.put, List.setIfInBounds_toArray, List.set_cons_zero, List.set_cons_succ]
  refine wpAnyH_takeD (i := 41) (some 197) (v := ?_) rfl rfl (by kernel_rfl) (by kernel_rfl) (by kernel_rfl) (fun _ _ _ h => h) (Or.inl ⟨by rfl, ?_⟩) (by assumption) ?_
  rotate_left
  · (intro w hSw; (try dsimp only at hSw); go_simp; try with_reducible rfl)
  try simp only [Act.put, List.setIfInBounds_toArray, List.set_cons_zero, List.set_cons_succ]
  refine wpAnyH_takeD (i := 42) (some 198) (v := ?_) rfl rfl (by kernel_rfl) (by kernel_rfl) (by kernel_rfl) (fun _ _ _ h => h) (Or.inl ⟨by rfl, ?_⟩) (by assumption) ?_
  rotate_left
  · (intro w hSw; (try dsimp only at hSw); go_simp; try with_reducible rfl)
  try simp only [Act.put, List.setIfInBounds_toArray, List.set_cons_zero, List.set_cons_succ]
  refine wpAnyH_takeD (i := 43) (some 199) (v := ?_) rfl rfl (by kernel_rfl) (by kernel_rfl) (by kernel_rfl) (fun _ _ _ h => h) (Or.inl ⟨by rfl, ?_⟩) (by assumption) ?_
  rotate_left
  · (intro w hSw; (try dsimp only at hSw); go_simp; try with_reducible rfl)
  try simp only [Act.put, List.setIfInBounds_toArray, List.set_cons_zero, List.set_cons_succ]
  refine wpAnyH_takeD (i := 44) (some 200) (v := ?_) rfl rfl (by kernel_rfl) (by kernel_rfl) (by kernel_rfl) (fun _ _ _ h => h) (Or.inl ⟨by rfl, ?_⟩) (by assumption) ?_
  rotate_left
  · (intro w hSw; (try dsimp only at hSw); go_simp; try with_reducible rfl)
  try simp only [Act.put, List.setIfInBounds_toArray, List.set_cons_zero, List.set_cons_succ]
  refine wpAnyH_takeD (i := 45) (some 201) (v := ?_) rfl rfl (by kernel_rfl) (by kernel_rfl) (by kernel_rfl) (fun _ _ _ h => h) (Or.inl ⟨by rfl, ?_⟩) (by assumption) ?_
  rotate_left
  · (intro w hSw; (try dsimp only at hSw); go_simp; try with_reducible rfl)
  try simp only [Act.put, List.setIfInBounds_toArray, List.set_cons_zero, List.set_cons_succ]
  refine wpAnyH_ready (rs := [46]) (by kernel_rfl) (by simp) ?_
  refine AllReadyH.cons (o := _) rfl (fun K hK => ?_) AllReadyH.nil
  go_simp
  refine (HS3.out _).mono ?_
  rintro e wx ⟨rfl, rfl⟩
  go_wp2_with fail
  refine hK.out _ _ (KS.out _ (bel_d hn0)) (fun hHeld => ?_)
  clear hK K
  try simp only [Act.put, List.setIfInBounds_toArray, List.set_cons_zero, List.set_cons_succ]
  refine wpAnyH_takeD (i := 47) (some 203) (v := ?_) rfl rfl (by kernel_rfl) (by kernel_rfl) (by kernel_rfl) (fun _ _ _ h => h) (Or.inl ⟨by rfl, ?_⟩) (by assumption) ?_
  rotate_left
  · (intro w hSw; (try dsimp only at hSw); go_simp; try with_reducible rfl)
  try simp only [Act.put, List.setIfInBounds_toArray, List.set_cons_zero, List.set_cons_succ]
  refine wpAnyH_takeD (i := 48) (some 204) (v := ?_) rfl rfl (by kernel_rfl) (by kernel_rfl) (by kernel_rfl) (fun _ _ _ h => h) (Or.inl ⟨by rfl, ?_⟩) (by assumption) ?_
  rotate_left
  · (intro w hSw; (try dsimp only at hSw); go_simp; try with_reducible rfl)
  try simp only [Act.put, List.setIfInBounds_toArray, List.set_cons_zero, List.set_cons_succ]
  refine wpAnyH_takeD (i := 49) (some 205) (v := ?_) rfl rfl (by kernel_rfl) (by kernel_rfl) (by kernel_rfl) (fun _ _ _ h => h) (Or.inl ⟨by rfl, ?_⟩) (by assumption) ?_
  rotate_left
  · (intro w hSw; (try dsimp only at hSw); go_simp; try with_reducible rfl)
  try simp only [Act.put, List.setIfInBounds_toArray, List.set_cons_zero, List.set_cons_succ]
  refine wpAnyH_takeD (i := 50) (some 206) (v := ?_) rfl rfl (by kernel_rfl) (by kernel_rfl) (by kernel_rfl) (fun _ _ _ h => h) (Or.inl ⟨by rfl, ?_⟩) (by assumption) ?_
  rotate_left
  · (intro w hSw; (try dsimp only at hSw); go_simp; try with_reducible rfl)
  try simp only [Act.put, List.setIfInBounds_toArray, List.set_cons_zero, List.set_cons_succ]
  refine wpAnyH_ready (rs := [51]) (by kernel_rfl) (by simp) ?_
  refine AllReadyH.cons (o := _) rfl (fun K hK => ?_) AllReadyH.nil
  go_simp
  refine (HSI.out _).mono ?_
  rintro e y1 ⟨rfl, hx1⟩
  have hn1 : Below U.heap.size U y1 := bel_then (bel_d hn0) hx1
  go_wp2_with fail
  refine hK.out _ _ (KS.out _ hn1) (fun hHeld => ?_)
  clear hK K
  try simp only [Act.put, List.setIfInBounds_toArray, List.set_cons_zero, List.set_cons_succ]
  refine wpAnyH_takeD (i := 52) (some 208) (v := ?_) rfl rfl (by kernel_rfl) (by kernel_rfl) (by kernel_rfl) (fun _ _ _ h => h) (Or.inl ⟨by rfl, ?_⟩) (by assumption) ?_
  rotate_left
  · (intro w hSw; (try dsimp only at hSw); go_simp; try with_reducible rfl)
  try simp only [Act.put, List.setIfInBounds_toArray, List.set_cons_zero, List.set_cons_succ]
  refine wpAnyH_takeD (i := 53) (some 209) (v := ?_) rfl rfl (by kernel_rfl) (by kernel_rfl) (by kernel_rfl) (fun _ _ _ h => h) (Or.inl ⟨by rfl, ?_⟩) (by assumption) ?_
  rotate_left
  · (intro w hSw; (try dsimp only at hSw); go_simp; try with_reducible rfl)
  try simp only [Act.put, List.setIfInBounds_toArray, List.set_cons_zero, List.set_cons_succ]
  refine wpAnyH_takeD (i := 54) (some 14) (v := ?_) rfl rfl (by kernel_rfl) (by kernel_rfl) (by kernel_rfl) (fun _ _ _ h => h) (Or.inl ⟨by rfl, ?_⟩) (by assumption) ?_
  rotate_left
  · (intro w hSw; (try dsimp only at hSw); go_simp; try with_reducible rfl)
  try simp only [Act.put, List.setIfInBounds_toArray, List.set_cons_zero, List.set_cons_succ]
  refine wpAnyH_done (by kernel_rfl) ?_ _
  clear hHeld KS
  go_wp2_with fail
  go_ret
  exact ⟨rfl, bel_then HBW.out (bel_then HBU.out hn1)⟩
end Go.Proofs.YtpidpbjbgjkaaaaDoor
