/- ProxyRight's walk (printed by gen_pright.py). -/
import Derived.Test.YtpidpbjbgjkaaaaDoorJ10
import Derived.Test.YtpidpbjbgjkaaaaDoorJ11
namespace Go.Proofs.YtpidpbjbgjkaaaaDoor
open Go.RowKit
set_option maxRecDepth 8000
set_option linter.unusedVariables false
set_option linter.unusedSimpArgs false
theorem eq_shift (a b : Int) (w : World) : Sem.run Tryd.prog (Op.equalIn 10000 31 (.agg #[.int .u32 a, .int .u32 b]) (.agg #[.int .u32 a, .int .u32 b])) w = .ok true w := by
  go_simp
set_option maxHeartbeats 16000000 in
theorem proxyright_walk (A : Option Addr) (n c : Nat) (rs : List Mac.Key) (x : Cook.Tup) (hx : x.wf) (t u : Tcp.T) (ck ep m s st : Int) (hc0 : 0 ≤ ck) (hc1 : ck ≤ 4294967295) (h0 : 0 ≤ s) (h1 : s ≤ 4294967295) (h2 : 0 ≤ st) (h3 : st ≤ 4294967295) (w : World) (hT : Tabs w) (hK : TabK w) (hr : Mac.Ring0 w A n rs) (hbig : n ≤ 9223372036854775807) (ht : t.ok w) (hu : u.ok w) :
    Calls Tryd.prog 3 #[.slice A n c, .agg #[.int .i64 x.proto, .int .u32 x.src, .int .i64 x.sport, .int .u32 x.dst, .int .i64 x.dport], .agg #[.int .i64 t.sp, .int .i64 t.dp, .int .u32 t.sq, .int .u32 t.ak, .int .i64 t.fl, .int .i64 t.wi, .int .i64 t.ur, .slice t.Ao t.no t.co, .slice t.Ab t.nb t.cb], .agg #[.int .i64 u.sp, .int .i64 u.dp, .int .u32 u.sq, .int .u32 u.ak, .int .i64 u.fl, .int .i64 u.wi, .int .i64 u.ur, .slice u.Ao u.no u.co, .slice u.Ab u.nb u.cb], .int .u32 ck, .int .i64 ep, .int .i64 m, .agg #[.int .u32 s, .int .u32 st]] w fun e w' => e = .returned (.bool true) ∧ Below w.heap.size w w' := by
  obtain ⟨W, hW⟩ : ∃ W, W = (((w.alloc (.cells #[.int .i64 x.proto, .int .u32 x.src, .int .i64 x.sport, .int .u32 x.dst, .int .i64 x.dport] 25)).alloc (.cells #[.int .i64 t.sp, .int .i64 t.dp, .int .u32 t.sq, .int .u32 t.ak, .int .i64 t.fl, .int .i64 t.wi, .int .i64 t.ur, .slice t.Ao t.no t.co, .slice t.Ab t.nb t.cb] 29)).alloc (.cells #[.int .i64 u.sp, .int .i64 u.dp, .int .u32 u.sq, .int .u32 u.ak, .int .i64 u.fl, .int .i64 u.wi, .int .i64 u.ur, .slice u.Ao u.no u.co, .slice u.Ab u.nb u.cb] 29)).alloc (.cells #[.int .u32 s, .int .u32 st] 31) := ⟨_, rfl⟩
  have hbW : Below w.heap.size w W := by rw [hW]; exact ((((Below.refl _ _).alloc (Nat.le_refl _) _).alloc (by simp) _).alloc (by simp; omega) _).alloc (by simp; omega) _
  have hWs : w.heap.size + 3 < W.heap.size := by rw [hW]; simp
  have BX : BlkV W w.heap.size 25 [.int .i64 x.proto, .int .u32 x.src, .int .i64 x.sport, .int .u32 x.dst, .int .i64 x.dport] := by rw [hW]; exact (((BlkV.new w _ _).alloc _).alloc _).alloc _
  have BT : BlkV W (w.heap.size + 1) 29 [.int .i64 t.sp, .int .i64 t.dp, .int .u32 t.sq, .int .u32 t.ak, .int .i64 t.fl, .int .i64 t.wi, .int .i64 t.ur, .slice t.Ao t.no t.co, .slice t.Ab t.nb t.cb] := by rw [hW]; exact ((BlkV.new_at (w.alloc (.cells #[.int .i64 x.proto, .int .u32 x.src, .int .i64 x.sport, .int .u32 x.dst, .int .i64 x.dport] 25)) _ _ (by simp)).alloc _).alloc _
  have BU : BlkV W (w.heap.size + 1 + 1) 29 [.int .i64 u.sp, .int .i64 u.dp, .int .u32 u.sq, .int .u32 u.ak, .int .i64 u.fl, .int .i64 u.wi, .int .i64 u.ur, .slice u.Ao u.no u.co, .slice u.Ab u.nb u.cb] := by rw [hW]; exact (BlkV.new_at ((w.alloc (.cells #[.int .i64 x.proto, .int .u32 x.src, .int .i64 x.sport, .int .u32 x.dst, .int .i64 x.dport] 25)).alloc (.cells #[.int .i64 t.sp, .int .i64 t.dp, .int .u32 t.sq, .int .u32 t.ak, .int .i64 t.fl, .int .i64 t.wi, .int .i64 t.ur, .slice t.Ao t.no t.co, .slice t.Ab t.nb t.cb] 29)) _ _ (by simp)).alloc _
  have BS : BlkV W (w.heap.size + 1 + 1 + 1) 31 [.int .u32 s, .int .u32 st] := by rw [hW]; exact BlkV.new_at (((w.alloc (.cells #[.int .i64 x.proto, .int .u32 x.src, .int .i64 x.sport, .int .u32 x.dst, .int .i64 x.dport] 25)).alloc (.cells #[.int .i64 t.sp, .int .i64 t.dp, .int .u32 t.sq, .int .u32 t.ak, .int .i64 t.fl, .int .i64 t.wi, .int .i64 t.ur, .slice t.Ao t.no t.co, .slice t.Ab t.nb t.cb] 29)).alloc (.cells #[.int .i64 u.sp, .int .i64 u.dp, .int .u32 u.sq, .int .u32 u.ak, .int .i64 u.fl, .int .i64 u.wi, .int .i64 u.ur, .slice u.Ao u.no u.co, .slice u.Ab u.nb u.cb] 29)) _ _ (by simp)
  have KX := Lib.hid (tup_c5 W x w.heap.size BX)
  obtain ⟨CA, nA, hA1, hA2⟩ := pair_ans t ck hc0 hc1 ht.sq
  obtain ⟨CK, nK, hK1, hK2⟩ := pair_ask t m ht.wi ht.sq
  obtain ⟨s1, s2, v, nL, hv, hL1, hL2⟩ := pair_learn t u ck w ht hu
  have HA1 := Lib.hid hA1
  have HA2 := Lib.hid hA2
  have HK1 := Lib.hid hK1
  have HK2 := Lib.hid hK2
  have HL1 := Lib.hid hL1
  have HL2 := Lib.hid hL2
  have HV := Lib.hid hv
  have HAW := Lib.hid (prox_awake W)
  have HRG := Lib.hid (fun (w1 : World) (hb : Below W.heap.size W w1) => pcshort_spec A n c rs w1 ((hr.below hbW).below hb) hbig)
  have HST := Lib.hid (fun (w1 : World) (hb : Below W.heap.size W w1) => pshort_spec t w1 ((ht.below hbW).below hb))
  have HSU := Lib.hid (fun (w1 : World) (hb : Below W.heap.size W w1) => pshort_spec u w1 ((hu.below hbW).below hb))
  have HKN : Hid ((∀ k ∈ rs, k.n ≤ 200) → _) := Lib.hid (fun hk => pair_known A n c rs x hx t ep W (hT.below hbW) (hK.below hbW) ((hr.below hbW).ring2 hk) hbig ht.sq ht.ak)
  have HTS : Hid (t.con.small → _) := Lib.hid (fun hs => pair_toS t s st W (ht.below hbW) hs h0 h1 h2 h3)
  have HTC : Hid (t.con.small → _) := Lib.hid (fun hs => pair_toC t s st W (ht.below hbW) hs h0 h1 h2 h3)
  have HSG := Lib.hid segsame_spec
  clear hA1 hA2 hK1 hK2 hL1 hL2 hv hT hK hr ht hu BX
  go_enter Tryd.func3, Tryd.ntmps3
  go_upto_region 1 with (fail)
  rw [← hW]
  clear hW
  go_wp2_with fail
  refine HAW.out.mono ?_
  rintro e w1 ⟨rfl, hb1⟩
  clear HAW
  go_wp2_with fail
  refine (HRG.out w1 hb1).mono ?_
  rintro e w2 ⟨q, rfl, hq, rfl⟩
  have HQ := Lib.hid hq
  clear hq HRG
  cases q
  · go_wp2_with fail
    go_ret
    exact ⟨rfl, bel_then hbW hb1⟩
  obtain ⟨kn, kb, hk1, hk2⟩ := HKN.out (HQ.out rfl).2
  have HN1 := Lib.hid hk1
  have HN2 := Lib.hid hk2
  clear HKN HQ hk1 hk2
  obtain ⟨c0, c1, c2, c3, c4, c5, c6, c7, c8⟩ := cells9' (BT.below hb1)
  go_wp2_with fail
  clear c0 c1 c2 c3 c4 c5 c6 c7 c8
  refine (HST.out w1 hb1).mono ?_
  rintro e w2 ⟨q, rfl, hq, hb2⟩
  have hb2' := bel_then hb1 hb2
  have HQ := Lib.hid hq
  clear hq HST hb1 hb2
  cases q
  · go_wp2_with fail
    go_ret
    exact ⟨rfl, bel_then hbW hb2'⟩
  obtain ⟨CS, hs1, hs2⟩ := HTS.out (HQ.out rfl)
  obtain ⟨CC, hc1, hc2⟩ := HTC.out (HQ.out rfl)
  have HS1 := Lib.hid hs1
  have HS2 := Lib.hid hs2
  have HC1 := Lib.hid hc1
  have HC2 := Lib.hid hc2
  clear HTS HTC HQ hs1 hs2 hc1 hc2
  obtain ⟨c0, c1, c2, c3, c4, c5, c6, c7, c8⟩ := cells9' (BU.below hb2')
  go_wp2_with fail
  clear c0 c1 c2 c3 c4 c5 c6 c7 c8
  refine (HSU.out w2 hb2').mono ?_
  rintro e w3 ⟨q, rfl, hq, hb3⟩
  have hb3' := bel_then hb2' hb3
  clear hq HSU hb2' hb3
  cases q
  · go_wp2_with fail
    go_ret
    exact ⟨rfl, bel_then hbW hb3'⟩
  have BT3 := BT.below hb3'
  go_wp2_with (refine wpList_ldB 29 _ _ (by with_reducible rfl) rfl (by rfl) BT3 Tryd.underlying29 rfl (tcp_size (by rfl)) ?_)
  refine (HA1.out w3).mono ?_
  rintro e w4 ⟨hb4, a, rfl, hao, hac⟩
  have HAO := Lib.hid hao
  have HAC := Lib.hid (hac _ rfl)
  have hz := @BlkV.new w4 29 [.int .i64 0, .int .i64 0, .int .u32 0, .int .u32 0, .int .i64 0, .int .i64 0, .int .i64 0, .slice none 0 0, .slice none 0 0]
  simp only [Tcp.T.cells]
  clear hao hac HA1 BT3
  go_upto_region 6 with (refine wpList_stB 29 _ _ (by with_reducible rfl) rfl (by rfl) _ (by rfl) (by exact hz) (by rfl) (tcp_size (by rfl)) (by rfl) ?_; intro w5 BA5 hO5)
  have hb5 : Below w4.heap.size w4 w5 := hO5.bel (Nat.le_refl _) (bel_a (Below.refl _ _) _)
  have hs5 : w4.heap.size < w5.heap.size := by rw [hO5.size]; simp
  obtain ⟨ga, hga⟩ : ∃ ga, ga = w4.heap.size := ⟨_, rfl⟩
  have hgaW : W.heap.size ≤ ga := by have := hb3'.size; have := hb4.size; omega
  have hb5' := bel_then hb3' (bel_then hb4 hb5)
  have AO5 := Lib.hid (HAO.out.below hb5)
  rw [← hga] at BA5 hs5 ⊢
  have BT5 := BT.below hb5'
  clear hz hO5 hga HAO hb3' hb4 hb5
  go_wp2_with (refine wpList_ldB 29 _ _ (by with_reducible rfl) rfl (by rfl) BT5 Tryd.underlying29 rfl (tcp_size (by rfl)) ?_)
  refine (HA2.out w5).mono ?_
  rintro e w6 ⟨hb6, b, rfl, hbo, hbc⟩
  have HBO := Lib.hid hbo
  have HBC := Lib.hid (hbc _ rfl)
  have hz := @BlkV.new w6 29 [.int .i64 0, .int .i64 0, .int .u32 0, .int .u32 0, .int .i64 0, .int .i64 0, .int .i64 0, .slice none 0 0, .slice none 0 0]
  simp only [Tcp.T.cells]
  clear hbo hbc HA2 BT5
  go_upto_region 7 with (refine wpList_stB 29 _ _ (by with_reducible rfl) rfl (by rfl) _ (by rfl) (by exact hz) (by rfl) (tcp_size (by rfl)) (by rfl) ?_; intro w7 BB7 hO7)
  have hb7 : Below w6.heap.size w6 w7 := hO7.bel (Nat.le_refl _) (bel_a (Below.refl _ _) _)
  have hs7 : w6.heap.size < w7.heap.size := by rw [hO7.size]; simp
  obtain ⟨gb, hgb⟩ : ∃ gb, gb = w6.heap.size := ⟨_, rfl⟩
  have hgab : ga < gb := by have := hb6.size; omega
  have hb57 := bel_then hb6 hb7
  have hb7' := bel_then hb5' hb57
  have AO7 := Lib.hid (AO5.out.below hb57)
  have BO7 := Lib.hid (HBO.out.below hb7)
  have BA7 := BA5.below hb57
  rw [← hgb] at BB7 hs7 ⊢
  obtain ⟨x0, x1, x2, x3, x4⟩ := KX.out w7 hb7'
  have BT7 := BT.below hb7'
  clear hz hO7 hgb HBO hb6 hb7 hb57 hb5' BA5 AO5
  go_wp2_with (refine wpList_ldB 29 _ _ (by with_reducible rfl) rfl (by rfl) BT7 Tryd.underlying29 rfl (tcp_size (by rfl)) ?_)
  refine (HN1.out w7 hb7').mono ?_
  rintro e w8 ⟨rfl, hb8⟩
  have hb8' := bel_then hb7' hb8
  have hs8 := hb8.size
  have BA8 := BA7.below hb8
  have BB8 := BB7.below hb8
  have AO8 := Lib.hid (AO7.out.below hb8)
  have BO8 := Lib.hid (BO7.out.below hb8)
  have BT8 := BT.below hb8'
  clear x0 x1 x2 x3 x4 HN1 hb7' hb8 BA7 BB7 BT7 AO7 BO7
  obtain ⟨x0, x1, x2, x3, x4⟩ := KX.out w8 hb8'
  go_wp2_with (refine wpList_ldB 29 _ _ (by with_reducible rfl) rfl (by rfl) BT8 Tryd.underlying29 rfl (tcp_size (by rfl)) ?_)
  refine (HN2.out w8 hb8').mono ?_
  rintro e w9 ⟨rfl, hb9⟩
  have hb9' := bel_then hb8' hb9
  have hs9 := hb9.size
  have BA9 := BA8.below hb9
  have BB9 := BB8.below hb9
  have AO9 := Lib.hid (AO8.out.below hb9)
  have BO9 := Lib.hid (BO8.out.below hb9)
  have HSM := Lib.hid (HSG.out a b w9 AO9.out.okay BO9.out.okay (HAC.out.trans HBC.out.symm))
  clear x0 x1 x2 x3 x4 HN2 hb8' hb9 BA8 BB8 BT8 AO8 BO8 KX
  go_wp2_with (first | (refine wpList_ldB 29 _ _ (by with_reducible rfl) rfl (by rfl) BA9 Tryd.underlying29 rfl (tcp_size (by rfl)) ?_) | (refine wpList_ldB 29 _ _ (by with_reducible rfl) rfl (by rfl) BB9 Tryd.underlying29 rfl (tcp_size (by rfl)) ?_))
  refine HSM.out.mono ?_
  rintro e w10 ⟨rfl, hb10⟩
  have hb10' := bel_then hb9' hb10
  have hs10 := hb10.size
  have BA10 := BA9.below hb10
  have BB10 := BB9.below hb10
  have BT10 := BT.below hb10'
  clear HSM hb9' hb10 BA9 BB9 AO9 BO9 HAC HBC
  go_wp2_with (refine wpList_ldB 29 _ _ (by with_reducible rfl) rfl (by rfl) BT10 Tryd.underlying29 rfl (tcp_size (by rfl)) ?_)
  refine (HK1.out w10).mono ?_
  rintro e w11 ⟨hb11, a', rfl, hao, hac⟩
  have HAO := Lib.hid hao
  have HAC := Lib.hid (hac _ rfl)
  simp only [Tcp.T.cells]
  have BA11 := BA10.below hb11
  have BB11 := BB10.below hb11
  have hb11' := bel_then hb10' hb11
  have hs11 := hb11.size
  clear hao hac HK1 BT10 BA10 BB10 hb11
  go_upto_region 12 with (refine wpList_stB 29 _ _ (by with_reducible rfl) rfl (by rfl) _ (by rfl) BA11 (by rfl) (tcp_size (by rfl)) (by rfl) ?_; intro w12 BA12 hO12)
  have hb12' : Below W.heap.size W w12 := hO12.bel hgaW hb11'
  have AO12 := Lib.hid (HAO.out.only hO12 (show ga < w10.heap.size by omega))
  have BB12 := BB11.only hO12 (show gb ≠ ga by omega)
  have hs12 := hO12.size
  have BT12 := BT.below hb12'
  clear hO12 HAO BA11 BB11 hb11'
  go_wp2_with (refine wpList_ldB 29 _ _ (by with_reducible rfl) rfl (by rfl) BT12 Tryd.underlying29 rfl (tcp_size (by rfl)) ?_)
  refine (HK2.out w12).mono ?_
  rintro e w13 ⟨hb13, b', rfl, hbo, hbc⟩
  have HBO := Lib.hid hbo
  have HBC := Lib.hid (hbc _ rfl)
  simp only [Tcp.T.cells]
  have BA13 := BA12.below hb13
  have BB13 := BB12.below hb13
  have AO13 := Lib.hid (AO12.out.below hb13)
  have hb13' := bel_then hb12' hb13
  have hs13 := hb13.size
  clear hbo hbc HK2 BT12 BA12 BB12 AO12 hb13
  go_upto_region 13 with (refine wpList_stB 29 _ _ (by with_reducible rfl) rfl (by rfl) _ (by rfl) BB13 (by rfl) (tcp_size (by rfl)) (by rfl) ?_; intro w14 BB14 hO14)
  have hb14' : Below W.heap.size W w14 := hO14.bel (show W.heap.size ≤ gb by omega) hb13'
  have AO14 := Lib.hid (AO13.out.only hO14 (show gb < w10.heap.size by omega))
  have BO14 := Lib.hid (HBO.out.only hO14 (show gb < w12.heap.size by omega))
  have BA14 := BA13.only hO14 (show ga ≠ gb by omega)
  have hs14 := hO14.size
  have HSM := Lib.hid (HSG.out a' b' w14 AO14.out.okay BO14.out.okay (HAC.out.trans HBC.out.symm))
  clear hO14 HBO BA13 BB13 AO13 hb13' hb12' AO14 BO14 HAC HBC
  go_wp2_with (first | (refine wpList_ldB 29 _ _ (by with_reducible rfl) rfl (by rfl) BA14 Tryd.underlying29 rfl (tcp_size (by rfl)) ?_) | (refine wpList_ldB 29 _ _ (by with_reducible rfl) rfl (by rfl) BB14 Tryd.underlying29 rfl (tcp_size (by rfl)) ?_))
  refine HSM.out.mono ?_
  rintro e w15 ⟨rfl, hb15⟩
  have hb15' := bel_then hb14' hb15
  have hs15 := hb15.size
  have BA15 := BA14.below hb15
  have BB15 := BB14.below hb15
  have BT15 := BT.below hb15'
  have BU15 := BU.below hb15'
  clear HSM hb14' hb15 BA14 BB14
  go_wp2_with (first | (refine wpList_ldB 29 _ _ (by with_reducible rfl) rfl (by rfl) BT15 Tryd.underlying29 rfl (tcp_size (by rfl)) ?_) | (refine wpList_ldB 29 _ _ (by with_reducible rfl) rfl (by rfl) BU15 Tryd.underlying29 rfl (tcp_size (by rfl)) ?_))
  refine (HL1.out w15).mono ?_
  rintro e w16 ⟨rfl, hb16⟩
  have hb16' := bel_then hb15' hb16
  have hs16 := hb16.size
  have BA16 := BA15.below hb16
  have BB16 := BB15.below hb16
  have hz := @BlkV.new w16 31 [.int .u32 0, .int .u32 0]
  simp only [Tcp.T.cells]
  clear HL1 BT15 BU15 BA15 BB15 hb15' hb16
  go_upto_region 16 with (first | (refine wpList_stB 31 _ _ (by with_reducible rfl) rfl (by rfl) _ (by rfl) (by exact hz) (by rfl) (shift_size (by rfl)) (by rfl) ?_; intro w17 BP17 hO17; have BA17 := (BA16.alloc (.cells #[.int .u32 0, .int .u32 0] 31)).only hO17 (by omega)) | (refine wpList_stB 29 _ _ (by with_reducible rfl) rfl (by rfl) _ (by rfl) BA17 (by rfl) (tcp_size (by rfl)) (by rfl) ?_; intro w18 BA18 hO18))
  obtain ⟨gp, hgp⟩ : ∃ gp, gp = w16.heap.size := ⟨_, rfl⟩
  have hb17 : Below w16.heap.size w16 w17 := hO17.bel (Nat.le_refl _) (bel_a (Below.refl _ _) _)
  have hb18' : Below W.heap.size W w18 := hO18.bel hgaW (bel_then hb16' hb17)
  have hs17 : w16.heap.size < w17.heap.size := by rw [hO17.size]; simp
  have hs18 := hO18.size
  have BP18 := BP17.only hO18 (by omega)
  have BB18 := (BB16.below hb17).only hO18 (show gb ≠ ga by omega)
  have BT18 := BT.below hb18'
  have BU18 := BU.below hb18'
  rw [← hgp] at BP18 hs17 ⊢
  have hgpb : gb < gp := by omega
  clear hz hgp hO17 hO18 hb17 BP17 BA17 BA16 BB16 hb16'
  go_wp2_with (first | (refine wpList_ldB 29 _ _ (by with_reducible rfl) rfl (by rfl) BT18 Tryd.underlying29 rfl (tcp_size (by rfl)) ?_) | (refine wpList_ldB 29 _ _ (by with_reducible rfl) rfl (by rfl) BU18 Tryd.underlying29 rfl (tcp_size (by rfl)) ?_))
  refine (HL2.out w18).mono ?_
  rintro e w19 ⟨rfl, hb19⟩
  have hb19' := bel_then hb18' hb19
  have hs19 := hb19.size
  have BA19 := BA18.below hb19
  have BB19 := BB18.below hb19
  have BP19 := BP18.below hb19
  have hz := @BlkV.new w19 31 [.int .u32 0, .int .u32 0]
  simp only [Tcp.T.cells]
  clear HL2 BT18 BU18 BA18 BB18 BP18 hb18' hb19
  go_upto_region 17 with (first | (refine wpList_stB 31 _ _ (by with_reducible rfl) rfl (by rfl) _ (by rfl) (by exact hz) (by rfl) (shift_size (by rfl)) (by rfl) ?_; intro w20 BQ20 hO20; have BB20 := (BB19.alloc (.cells #[.int .u32 0, .int .u32 0] 31)).only hO20 (by omega)) | (refine wpList_stB 29 _ _ (by with_reducible rfl) rfl (by rfl) _ (by rfl) BB20 (by rfl) (tcp_size (by rfl)) (by rfl) ?_; intro V BB21 hO21))
  obtain ⟨gq, hgq⟩ : ∃ gq, gq = w19.heap.size := ⟨_, rfl⟩
  have hb20 : Below w19.heap.size w19 w20 := hO20.bel (Nat.le_refl _) (bel_a (Below.refl _ _) _)
  have hbV : Below W.heap.size W V := hO21.bel (show W.heap.size ≤ gb by omega) (bel_then hb19' hb20)
  have BQ21 := BQ20.only hO21 (by omega)
  have BP21 := (BP19.below hb20).only hO21 (show gp ≠ gb by omega)
  have BA21 := (BA19.below hb20).only hO21 (show ga ≠ gb by omega)
  rw [← hgq] at BQ21 ⊢
  have BT21 := BT.below hbV
  have BS21 := BS.below hbV
  clear hz hgq hO20 hO21 hb20 BQ20 BB20 BA19 BB19 BP19 hb19'
  have KS : Hid (∀ w' : World, Below V.heap.size V w' → (w'.cell? ⟨w.heap.size + 1, 0, none⟩ = some (.int .i64 t.sp) ∧ w'.cell? ⟨w.heap.size + 1, 1, none⟩ = some (.int .i64 t.dp) ∧ w'.cell? ⟨w.heap.size + 1, 2, none⟩ = some (.int .u32 t.sq) ∧ w'.cell? ⟨w.heap.size + 1, 3, none⟩ = some (.int .u32 t.ak) ∧ w'.cell? ⟨w.heap.size + 1, 4, none⟩ = some (.int .i64 t.fl) ∧ w'.cell? ⟨w.heap.size + 1, 5, none⟩ = some (.int .i64 t.wi) ∧ w'.cell? ⟨w.heap.size + 1, 6, none⟩ = some (.int .i64 t.ur) ∧ w'.cell? ⟨w.heap.size + 1, 7, none⟩ = some (.slice t.Ao t.no t.co) ∧ w'.cell? ⟨w.heap.size + 1, 8, none⟩ = some (.slice t.Ab t.nb t.cb) ∧ w'.cell? ⟨w.heap.size + 1 + 1 + 1, 0, none⟩ = some (.int .u32 s) ∧ w'.cell? ⟨w.heap.size + 1 + 1 + 1, 1, none⟩ = some (.int .u32 st) ∧ w'.cell? ⟨ga, 0, none⟩ = some (.int .i64 v.sp) ∧ w'.cell? ⟨ga, 1, none⟩ = some (.int .i64 v.dp) ∧ w'.cell? ⟨ga, 2, none⟩ = some (.int .u32 v.sq) ∧ w'.cell? ⟨ga, 3, none⟩ = some (.int .u32 v.ak) ∧ w'.cell? ⟨ga, 4, none⟩ = some (.int .i64 v.fl) ∧ w'.cell? ⟨ga, 5, none⟩ = some (.int .i64 v.wi) ∧ w'.cell? ⟨ga, 6, none⟩ = some (.int .i64 v.ur) ∧ w'.cell? ⟨ga, 7, none⟩ = some (.slice v.Ao v.no v.co) ∧ w'.cell? ⟨ga, 8, none⟩ = some (.slice v.Ab v.nb v.cb) ∧ w'.cell? ⟨gb, 0, none⟩ = some (.int .i64 v.sp) ∧ w'.cell? ⟨gb, 1, none⟩ = some (.int .i64 v.dp) ∧ w'.cell? ⟨gb, 2, none⟩ = some (.int .u32 v.sq) ∧ w'.cell? ⟨gb, 3, none⟩ = some (.int .u32 v.ak) ∧ w'.cell? ⟨gb, 4, none⟩ = some (.int .i64 v.fl) ∧ w'.cell? ⟨gb, 5, none⟩ = some (.int .i64 v.wi) ∧ w'.cell? ⟨gb, 6, none⟩ = some (.int .i64 v.ur) ∧ w'.cell? ⟨gb, 7, none⟩ = some (.slice v.Ao v.no v.co) ∧ w'.cell? ⟨gb, 8, none⟩ = some (.slice v.Ab v.nb v.cb) ∧ w'.cell? ⟨gp, 0, none⟩ = some (.int .u32 s1) ∧ w'.cell? ⟨gp, 1, none⟩ = some (.int .u32 s2) ∧ w'.cell? ⟨gq, 0, none⟩ = some (.int .u32 s1) ∧ w'.cell? ⟨gq, 1, none⟩ = some (.int .u32 s2))) := Lib.hid (by
    intro w' hb
    obtain ⟨c0, c1, c2, c3, c4, c5, c6, c7, c8⟩ := cells9' (BT21.below hb)
    obtain ⟨d0, d1, d2, d3, d4, d5, d6, d7, d8⟩ := cells9' (BA21.below hb)
    obtain ⟨f0, f1, f2, f3, f4, f5, f6, f7, f8⟩ := cells9' (BB21.below hb)
    exact ⟨c0, c1, c2, c3, c4, c5, c6, c7, c8, (BS21.below hb).cell rfl, (BS21.below hb).cell rfl, d0, d1, d2, d3, d4, d5, d6, d7, d8, f0, f1, f2, f3, f4, f5, f6, f7, f8, (BP21.below hb).cell rfl, (BP21.below hb).cell rfl, (BQ21.below hb).cell rfl, (BQ21.below hb).cell rfl⟩)
  have HEQ := Lib.hid (eq_shift s1 s2)
  have hn0 : Below V.heap.size V V := Below.refl _ _
  have HBV := Lib.hid hbV
  have HBW := Lib.hid hbW
  clear BT21 BA21 BB21 BS21 BP21 BQ21 BT BU BS hbV hbW
  as_aux_lemma =>
    have hEQ := HEQ.out
    refine wp_region_held_drew (S := fun w' => (w'.cell? ⟨w.heap.size + 1, 0, none⟩ = some (.int .i64 t.sp) ∧ w'.cell? ⟨w.heap.size + 1, 1, none⟩ = some (.int .i64 t.dp) ∧ w'.cell? ⟨w.heap.size + 1, 2, none⟩ = some (.int .u32 t.sq) ∧ w'.cell? ⟨w.heap.size + 1, 3, none⟩ = some (.int .u32 t.ak) ∧ w'.cell? ⟨w.heap.size + 1, 4, none⟩ = some (.int .i64 t.fl) ∧ w'.cell? ⟨w.heap.size + 1, 5, none⟩ = some (.int .i64 t.wi) ∧ w'.cell? ⟨w.heap.size + 1, 6, none⟩ = some (.int .i64 t.ur) ∧ w'.cell? ⟨w.heap.size + 1, 7, none⟩ = some (.slice t.Ao t.no t.co) ∧ w'.cell? ⟨w.heap.size + 1, 8, none⟩ = some (.slice t.Ab t.nb t.cb) ∧ w'.cell? ⟨w.heap.size + 1 + 1 + 1, 0, none⟩ = some (.int .u32 s) ∧ w'.cell? ⟨w.heap.size + 1 + 1 + 1, 1, none⟩ = some (.int .u32 st) ∧ w'.cell? ⟨ga, 0, none⟩ = some (.int .i64 v.sp) ∧ w'.cell? ⟨ga, 1, none⟩ = some (.int .i64 v.dp) ∧ w'.cell? ⟨ga, 2, none⟩ = some (.int .u32 v.sq) ∧ w'.cell? ⟨ga, 3, none⟩ = some (.int .u32 v.ak) ∧ w'.cell? ⟨ga, 4, none⟩ = some (.int .i64 v.fl) ∧ w'.cell? ⟨ga, 5, none⟩ = some (.int .i64 v.wi) ∧ w'.cell? ⟨ga, 6, none⟩ = some (.int .i64 v.ur) ∧ w'.cell? ⟨ga, 7, none⟩ = some (.slice v.Ao v.no v.co) ∧ w'.cell? ⟨ga, 8, none⟩ = some (.slice v.Ab v.nb v.cb) ∧ w'.cell? ⟨gb, 0, none⟩ = some (.int .i64 v.sp) ∧ w'.cell? ⟨gb, 1, none⟩ = some (.int .i64 v.dp) ∧ w'.cell? ⟨gb, 2, none⟩ = some (.int .u32 v.sq) ∧ w'.cell? ⟨gb, 3, none⟩ = some (.int .u32 v.ak) ∧ w'.cell? ⟨gb, 4, none⟩ = some (.int .i64 v.fl) ∧ w'.cell? ⟨gb, 5, none⟩ = some (.int .i64 v.wi) ∧ w'.cell? ⟨gb, 6, none⟩ = some (.int .i64 v.ur) ∧ w'.cell? ⟨gb, 7, none⟩ = some (.slice v.Ao v.no v.co) ∧ w'.cell? ⟨gb, 8, none⟩ = some (.slice v.Ab v.nb v.cb) ∧ w'.cell? ⟨gp, 0, none⟩ = some (.int .u32 s1) ∧ w'.cell? ⟨gp, 1, none⟩ = some (.int .u32 s2) ∧ w'.cell? ⟨gq, 0, none⟩ = some (.int .u32 s1) ∧ w'.cell? ⟨gq, 1, none⟩ = some (.int .u32 s2))) (by kernel_rfl) (KS.out _ (bel_d hn0)) (fun hHeld => ?_)
    refine wpAnyH_takeD (i := 0) (some 126) (v := ?_) rfl rfl (by kernel_rfl) (by kernel_rfl) (by kernel_rfl) (fun _ _ _ h => h) (Or.inl ⟨by rfl, ?_⟩) (by assumption) ?_
    rotate_left
    · (intro w hSw; (try dsimp only at hSw); go_simp; try with_reducible rfl)
    try simp only [Act.put, List.setIfInBounds_toArray, List.set_cons_zero, List.set_cons_succ]
    refine wpAnyH_takeD (i := 1) (some 127) (v := ?_) rfl rfl (by kernel_rfl) (by kernel_rfl) (by kernel_rfl) (fun _ _ _ h => h) (Or.inl ⟨by rfl, ?_⟩) (by assumption) ?_
    rotate_left
    · (intro w hSw; (try dsimp only at hSw); go_simp; try with_reducible rfl)
    try simp only [Act.put, List.setIfInBounds_toArray, List.set_cons_zero, List.set_cons_succ]
    refine wpAnyH_takeD (i := 2) (some 128) (v := ?_) rfl rfl (by kernel_rfl) (by kernel_rfl) (by kernel_rfl) (fun _ _ _ h => h) (Or.inl ⟨by rfl, ?_⟩) (by assumption) ?_
    rotate_left
    · (intro w hSw; (try dsimp only at hSw); go_simp; try with_reducible rfl)
    try simp only [Act.put, List.setIfInBounds_toArray, List.set_cons_zero, List.set_cons_succ]
    refine wpAnyH_takeD (i := 3) (some 129) (v := ?_) rfl rfl (by kernel_rfl) (by kernel_rfl) (by kernel_rfl) (fun _ _ _ h => h) (Or.inl ⟨by rfl, ?_⟩) (by assumption) ?_
    rotate_left
    · (intro w hSw; (try dsimp only at hSw); go_simp; try with_reducible rfl)
    try simp only [Act.put, List.setIfInBounds_toArray, List.set_cons_zero, List.set_cons_succ]
    refine wpAnyH_takeD (i := 4) (some 130) (v := ?_) rfl rfl (by kernel_rfl) (by kernel_rfl) (by kernel_rfl) (fun _ _ _ h => h) (Or.inl ⟨by rfl, ?_⟩) (by assumption) ?_
    rotate_left
    · (intro w hSw; (try dsimp only at hSw); go_simp; try with_reducible rfl)
    try simp only [Act.put, List.setIfInBounds_toArray, List.set_cons_zero, List.set_cons_succ]
    refine wpAnyH_takeD (i := 5) (some 131) (v := ?_) rfl rfl (by kernel_rfl) (by kernel_rfl) (by kernel_rfl) (fun _ _ _ h => h) (Or.inl ⟨by rfl, ?_⟩) (by assumption) ?_
    rotate_left
    · (intro w hSw; (try dsimp only at hSw); go_simp; try with_reducible rfl)
    try simp only [Act.put, List.setIfInBounds_toArray, List.set_cons_zero, List.set_cons_succ]
    refine wpAnyH_ready (rs := [6]) (by kernel_rfl) (by simp) ?_
    refine AllReadyH.cons (o := _) rfl (fun K hK => ?_) AllReadyH.nil
    go_simp
    refine (HSG.out v v _ (HV.out _) (HV.out _) rfl).mono ?_
    rintro e y1 ⟨rfl, hx1⟩
    have hn1 : Below V.heap.size V y1 := bel_then (by first | exact hn0 | exact bel_d hn0 | exact bel_d (bel_d hn0)) hx1
    clear hx1 hn0 hEQ HEQ
    go_wp2_with fail
    refine hK.out _ _ (KS.out _ hn1) (fun hHeld => ?_)
    clear hK K
    try simp only [Act.put, List.setIfInBounds_toArray, List.set_cons_zero, List.set_cons_succ]
    refine wpAnyH_takeD (i := 7) (some 133) (v := ?_) rfl rfl (by kernel_rfl) (by kernel_rfl) (by kernel_rfl) (fun _ _ _ h => h) (Or.inl ⟨by rfl, ?_⟩) (by assumption) ?_
    rotate_left
    · (intro w hSw; (try dsimp only at hSw); go_simp; try with_reducible rfl)
    try simp only [Act.put, List.setIfInBounds_toArray, List.set_cons_zero, List.set_cons_succ]
    refine wpAnyH_takeD (i := 8) (some 134) (v := ?_) rfl rfl (by kernel_rfl) (by kernel_rfl) (by kernel_rfl) (fun _ _ _ h => h) (Or.inl ⟨by rfl, ?_⟩) (by assumption) ?_
    rotate_left
    · (intro w hSw; (try dsimp only at hSw); go_simp; try with_reducible rfl)
    try simp only [Act.put, List.setIfInBounds_toArray, List.set_cons_zero, List.set_cons_succ]
    refine wpAnyH_takeD (i := 9) (some 135) (v := ?_) rfl rfl (by kernel_rfl) (by kernel_rfl) (by kernel_rfl) (fun _ _ _ h => h) (Or.inl ⟨by rfl, ?_⟩) (by assumption) ?_
    rotate_left
    · (intro w hSw; (try dsimp only at hSw); go_simp; try with_reducible rfl)
    try simp only [Act.put, List.setIfInBounds_toArray, List.set_cons_zero, List.set_cons_succ]
    refine wpAnyH_takeD (i := 10) (some 136) (v := ?_) rfl rfl (by kernel_rfl) (by kernel_rfl) (by kernel_rfl) (fun _ _ _ h => h) (Or.inl ⟨by rfl, ?_⟩) (by assumption) ?_
    rotate_left
    · (intro w hSw; (try dsimp only at hSw); go_simp; try with_reducible rfl)
    try simp only [Act.put, List.setIfInBounds_toArray, List.set_cons_zero, List.set_cons_succ]
    refine wpAnyH_takeD (i := 11) (some 137) (v := ?_) rfl rfl (by kernel_rfl) (by kernel_rfl) (by kernel_rfl) (fun _ _ _ h => h) (Or.inl ⟨by rfl, ?_⟩) (by assumption) ?_
    rotate_left
    · (intro w hSw; (try dsimp only at hSw); go_simp; try with_reducible rfl)
    try simp only [Act.put, List.setIfInBounds_toArray, List.set_cons_zero, List.set_cons_succ]
    refine wpAnyH_takeD (i := 12) (some 138) (v := ?_) rfl rfl (by kernel_rfl) (by kernel_rfl) (by kernel_rfl) (fun _ _ _ h => h) (Or.inl ⟨by rfl, ?_⟩) (by assumption) ?_
    rotate_left
    · (intro w hSw; (try dsimp only at hSw); go_simp; try with_reducible rfl)
    try simp only [Act.put, List.setIfInBounds_toArray, List.set_cons_zero, List.set_cons_succ]
    refine wpAnyH_takeD (i := 13) (some 139) (v := ?_) rfl rfl (by kernel_rfl) (by kernel_rfl) (by kernel_rfl) (fun _ _ _ h => h) (Or.inl ⟨by rfl, ?_⟩) (by assumption) ?_
    rotate_left
    · (intro w hSw; (try dsimp only at hSw); go_simp; try with_reducible rfl)
    try simp only [Act.put, List.setIfInBounds_toArray, List.set_cons_zero, List.set_cons_succ]
    refine wpAnyH_takeD (i := 14) (some 140) (v := ?_) rfl rfl (by kernel_rfl) (by kernel_rfl) (by kernel_rfl) (fun _ _ _ h => h) (Or.inl ⟨by rfl, ?_⟩) (by assumption) ?_
    rotate_left
    · (intro w hSw; (try dsimp only at hSw); go_simp; try with_reducible rfl)
    try simp only [Act.put, List.setIfInBounds_toArray, List.set_cons_zero, List.set_cons_succ]
    refine wpAnyH_takeD (i := 15) (some 141) (v := ?_) rfl rfl (by kernel_rfl) (by kernel_rfl) (by kernel_rfl) (fun _ _ _ h => h) (Or.inl ⟨by rfl, ?_⟩) (by assumption) ?_
    rotate_left
    · (intro w hSw; (try dsimp only at hSw); go_simp; try with_reducible rfl)
    try simp only [Act.put, List.setIfInBounds_toArray, List.set_cons_zero, List.set_cons_succ]
    refine wpAnyH_takeD (i := 17) (some 143) (v := ?_) rfl rfl (by kernel_rfl) (by kernel_rfl) (by kernel_rfl) (fun _ _ _ h => h) (Or.inl ⟨by rfl, ?_⟩) (by assumption) ?_
    rotate_left
    · (intro w hSw; (try dsimp only at hSw); go_simp; try with_reducible rfl)
    try simp only [Act.put, List.setIfInBounds_toArray, List.set_cons_zero, List.set_cons_succ]
    refine wpAnyH_takeD (i := 18) (some 144) (v := ?_) rfl rfl (by kernel_rfl) (by kernel_rfl) (by kernel_rfl) (fun _ _ _ h => h) (Or.inl ⟨by rfl, ?_⟩) (by assumption) ?_
    rotate_left
    · (intro w hSw; (try dsimp only at hSw); go_simp; try with_reducible rfl)
    try simp only [Act.put, List.setIfInBounds_toArray, List.set_cons_zero, List.set_cons_succ]
    refine wpAnyH_ready (rs := [16]) (by kernel_rfl) (by simp) ?_
    refine AllReadyH.cons (o := _) rfl (fun K hK => ?_) AllReadyH.nil
    go_simp
    refine (HS1.out _ (bel_then HBV.out (by first | exact hn1 | exact bel_d hn1 | exact bel_d (bel_d hn1)))).mono ?_
    rintro e y2 ⟨hx2, a2, rfl, ok2, con2⟩
    have hn2 : Below V.heap.size V y2 := bel_then (by first | exact hn1 | exact bel_d hn1 | exact bel_d (bel_d hn1)) hx2
    have O2 := Lib.hid ok2
    have C2 := Lib.hid con2
    clear hx2 hn1 ok2 con2 HS1
    simp only [Tcp.T.cells]
    go_wp2_with fail
    refine hK.out _ _ (KS.out _ hn2) (fun hHeld => ?_)
    clear hK K
    try simp only [Act.put, List.setIfInBounds_toArray, List.set_cons_zero, List.set_cons_succ]
    refine wpAnyH_ready (rs := [19]) (by kernel_rfl) (by simp) ?_
    refine AllReadyH.cons (o := _) rfl (fun K hK => ?_) AllReadyH.nil
    go_simp
    refine (HS2.out _ (bel_then HBV.out (by first | exact hn2 | exact bel_d hn2 | exact bel_d (bel_d hn2)))).mono ?_
    rintro e y3 ⟨hx3, a3, rfl, ok3, con3⟩
    have hn3 : Below V.heap.size V y3 := bel_then (by first | exact hn2 | exact bel_d hn2 | exact bel_d (bel_d hn2)) hx3
    have O2b := Lib.hid ((O2.out.below (by first | exact Below.refl _ _ | exact bel_d (Below.refl _ _) | exact bel_d (bel_d (Below.refl _ _)))).below hx3)
    have O3 := Lib.hid ok3
    have C3 := Lib.hid con3
    clear hx3 hn2 ok3 con3 HS2 O2
    simp only [Tcp.T.cells]
    go_wp2_with fail
    refine hK.out _ _ (KS.out _ hn3) (fun hHeld => ?_)
    clear hK K
    try simp only [Act.put, List.setIfInBounds_toArray, List.set_cons_zero, List.set_cons_succ]
    refine wpAnyH_ready (rs := [20]) (by kernel_rfl) (by simp) ?_
    refine AllReadyH.cons (o := _) rfl (fun K hK => ?_) AllReadyH.nil
    go_simp
    refine (HSG.out a2 a3 _ (O2b.out.below (by first | exact Below.refl _ _ | exact bel_d (Below.refl _ _) | exact bel_d (bel_d (Below.refl _ _)))) (O3.out.below (by first | exact Below.refl _ _ | exact bel_d (Below.refl _ _) | exact bel_d (bel_d (Below.refl _ _)))) (C2.out.trans C3.out.symm)).mono ?_
    rintro e y4 ⟨rfl, hx4⟩
    have hn4 : Below V.heap.size V y4 := bel_then (by first | exact hn3 | exact bel_d hn3 | exact bel_d (bel_d hn3)) hx4
    clear hx4 hn3 O2b O3 C2 C3
    go_wp2_with fail
    refine hK.out _ _ (KS.out _ hn4) (fun hHeld => ?_)
    clear hK K
    try simp only [Act.put, List.setIfInBounds_toArray, List.set_cons_zero, List.set_cons_succ]
    refine wpAnyH_takeD (i := 21) (some 147) (v := ?_) rfl rfl (by kernel_rfl) (by kernel_rfl) (by kernel_rfl) (fun _ _ _ h => h) (Or.inl ⟨by rfl, ?_⟩) (by assumption) ?_
    rotate_left
    · (intro w hSw; (try dsimp only at hSw); go_simp; try with_reducible rfl)
    try simp only [Act.put, List.setIfInBounds_toArray, List.set_cons_zero, List.set_cons_succ]
    refine wpAnyH_takeD (i := 22) (some 148) (v := ?_) rfl rfl (by kernel_rfl) (by kernel_rfl) (by kernel_rfl) (fun _ _ _ h => h) (Or.inl ⟨by rfl, ?_⟩) (by assumption) ?_
    rotate_left
    · (intro w hSw; (try dsimp only at hSw); go_simp; try with_reducible rfl)
    try simp only [Act.put, List.setIfInBounds_toArray, List.set_cons_zero, List.set_cons_succ]
    refine wpAnyH_takeD (i := 23) (some 149) (v := ?_) rfl rfl (by kernel_rfl) (by kernel_rfl) (by kernel_rfl) (fun _ _ _ h => h) (Or.inl ⟨by rfl, ?_⟩) (by assumption) ?_
    rotate_left
    · (intro w hSw; (try dsimp only at hSw); go_simp; try with_reducible rfl)
    try simp only [Act.put, List.setIfInBounds_toArray, List.set_cons_zero, List.set_cons_succ]
    refine wpAnyH_takeD (i := 24) (some 150) (v := ?_) rfl rfl (by kernel_rfl) (by kernel_rfl) (by kernel_rfl) (fun _ _ _ h => h) (Or.inl ⟨by rfl, ?_⟩) (by assumption) ?_
    rotate_left
    · (intro w hSw; (try dsimp only at hSw); go_simp; try with_reducible rfl)
    try simp only [Act.put, List.setIfInBounds_toArray, List.set_cons_zero, List.set_cons_succ]
    refine wpAnyH_takeD (i := 26) (some 152) (v := ?_) rfl rfl (by kernel_rfl) (by kernel_rfl) (by kernel_rfl) (fun _ _ _ h => h) (Or.inl ⟨by rfl, ?_⟩) (by assumption) ?_
    rotate_left
    · (intro w hSw; (try dsimp only at hSw); go_simp; try with_reducible rfl)
    try simp only [Act.put, List.setIfInBounds_toArray, List.set_cons_zero, List.set_cons_succ]
    refine wpAnyH_takeD (i := 27) (some 153) (v := ?_) rfl rfl (by kernel_rfl) (by kernel_rfl) (by kernel_rfl) (fun _ _ _ h => h) (Or.inl ⟨by rfl, ?_⟩) (by assumption) ?_
    rotate_left
    · (intro w hSw; (try dsimp only at hSw); go_simp; try with_reducible rfl)
    try simp only [Act.put, List.setIfInBounds_toArray, List.set_cons_zero, List.set_cons_succ]
    refine wpAnyH_ready (rs := [25]) (by kernel_rfl) (by simp) ?_
    refine AllReadyH.cons (o := _) rfl (fun K hK => ?_) AllReadyH.nil
    go_simp
    refine (HC1.out _ (bel_then HBV.out (by first | exact hn4 | exact bel_d hn4 | exact bel_d (bel_d hn4)))).mono ?_
    rintro e y5 ⟨hx5, a5, rfl, ok5, con5⟩
    have hn5 : Below V.heap.size V y5 := bel_then (by first | exact hn4 | exact bel_d hn4 | exact bel_d (bel_d hn4)) hx5
    have O5 := Lib.hid ok5
    have C5 := Lib.hid con5
    clear hx5 hn4 ok5 con5 HC1
    simp only [Tcp.T.cells]
    go_wp2_with fail
    refine hK.out _ _ (KS.out _ hn5) (fun hHeld => ?_)
    clear hK K
    try simp only [Act.put, List.setIfInBounds_toArray, List.set_cons_zero, List.set_cons_succ]
    refine wpAnyH_ready (rs := [28]) (by kernel_rfl) (by simp) ?_
    refine AllReadyH.cons (o := _) rfl (fun K hK => ?_) AllReadyH.nil
    go_simp
    refine (HC2.out _ (bel_then HBV.out (by first | exact hn5 | exact bel_d hn5 | exact bel_d (bel_d hn5)))).mono ?_
    rintro e y6 ⟨hx6, a6, rfl, ok6, con6⟩
    have hn6 : Below V.heap.size V y6 := bel_then (by first | exact hn5 | exact bel_d hn5 | exact bel_d (bel_d hn5)) hx6
    have O5b := Lib.hid ((O5.out.below (by first | exact Below.refl _ _ | exact bel_d (Below.refl _ _) | exact bel_d (bel_d (Below.refl _ _)))).below hx6)
    have O6 := Lib.hid ok6
    have C6 := Lib.hid con6
    clear hx6 hn5 ok6 con6 HC2 O5
    simp only [Tcp.T.cells]
    go_wp2_with fail
    refine hK.out _ _ (KS.out _ hn6) (fun hHeld => ?_)
    clear hK K
    try simp only [Act.put, List.setIfInBounds_toArray, List.set_cons_zero, List.set_cons_succ]
    refine wpAnyH_ready (rs := [29]) (by kernel_rfl) (by simp) ?_
    refine AllReadyH.cons (o := _) rfl (fun K hK => ?_) AllReadyH.nil
    go_simp
    refine (HSG.out a5 a6 _ (O5b.out.below (by first | exact Below.refl _ _ | exact bel_d (Below.refl _ _) | exact bel_d (bel_d (Below.refl _ _)))) (O6.out.below (by first | exact Below.refl _ _ | exact bel_d (Below.refl _ _) | exact bel_d (bel_d (Below.refl _ _)))) (C5.out.trans C6.out.symm)).mono ?_
    rintro e y7 ⟨rfl, hx7⟩
    have hn7 : Below V.heap.size V y7 := bel_then (by first | exact hn6 | exact bel_d hn6 | exact bel_d (bel_d hn6)) hx7
    clear hx7 hn6 O5b O6 C5 C6
    go_wp2_with fail
    refine hK.out _ _ (KS.out _ hn7) (fun hHeld => ?_)
    clear hK K
    try simp only [Act.put, List.setIfInBounds_toArray, List.set_cons_zero, List.set_cons_succ]
    refine wpAnyH_takeD (i := 30) (some 156) (v := ?_) rfl rfl (by kernel_rfl) (by kernel_rfl) (by kernel_rfl) (fun _ _ _ h => h) (Or.inl ⟨by rfl, ?_⟩) (by assumption) ?_
    rotate_left
    · (intro w hSw; (try dsimp only at hSw); go_simp; try with_reducible rfl)
    try simp only [Act.put, List.setIfInBounds_toArray, List.set_cons_zero, List.set_cons_succ]
    refine wpAnyH_takeD (i := 31) (some 16) (v := ?_) rfl rfl (by kernel_rfl) (by kernel_rfl) (by kernel_rfl) (fun _ _ _ h => h) (Or.inl ⟨by rfl, ?_⟩) (by assumption) ?_
    rotate_left
    · (intro w hSw; (try dsimp only at hSw); go_simp; try with_reducible rfl)
    try simp only [Act.put, List.setIfInBounds_toArray, List.set_cons_zero, List.set_cons_succ]
    refine wpAnyH_done (by kernel_rfl) ?_ _
    clear hHeld KS
    go_wp2_with fail
    go_ret
    exact ⟨rfl, bel_then HBW.out (bel_then HBV.out hn7)⟩
end Go.Proofs.YtpidpbjbgjkaaaaDoor
