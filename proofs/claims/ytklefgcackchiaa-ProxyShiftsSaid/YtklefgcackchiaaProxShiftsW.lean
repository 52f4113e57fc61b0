/- ProxyShifts' walk, first half. -/
import Derived.Test.YtklefgcackchiaaProxAwake
import Derived.Test.YtklefgcackchiaaProxSame
import Derived.Test.YtklefgcackchiaaProxLawP
import Derived.Test.YtklefgcackchiaaTcpSize
import Derived.Test.YtklefgcackchiaaProxBits
import Derived.Deep.DeepCutAuto
namespace Go.Proofs.Ytklefgcackchiaa
open Go.RowKit
set_option linter.unusedVariables false
set_option linter.unusedSimpArgs false
theorem con_nb {t u : Tcp.T} {w w' : World} (ht : t.ok w) (hu : u.ok w') (h : t.con.body = u.con.body) : t.nb = u.nb := by
  have h1 := ht.body.1
  have h2 := hu.body.1
  rw [bs_len] at h1 h2
  simp only [Tcp.T.con] at h
  rw [h] at h1
  omega
theorem con_no {t u : Tcp.T} {w w' : World} (ht : t.ok w) (hu : u.ok w') (h : t.con.opts.length = u.con.opts.length) : t.no = u.no := by
  have h1 := ht.opts.1
  have h2 := hu.opts.1
  simp only [Tcp.T.con, List.length_map] at h
  omega
theorem ne_false {x y : Int} (h : x = y) : (x != y) = false := by rw [h]; simp
theorem k_gen {K : Act → World → Prop} {a : Act} {w0 : World} {o : Obj} (h : ∀ x, x = w0.alloc o → K a x) : K a (w0.alloc o) := h _ rfl
theorem k_gend {K : Act → World → Prop} {a : Act} {w0 : World} {o : Obj} (h : ∀ x, x = (w0.alloc o).drew → K a x) : K a (w0.alloc o).drew := h _ rfl
theorem wp_stB2 {P : Program} {op : Oper} {a : Act} {w : World} {Q : Exit → Act → World → Prop} {g : Nat} {T : TypeId} {l : List Value} {K : Act → World → Prop} (ty : TypeId) (x y : Operand) (hd : op.dst = none) (ho : op.op = .store ty x y) (hx : a.eval x = .pointer (some ⟨g, 0, none⟩)) (cs : List Value) (hy : a.eval y = .agg cs.toArray) (h : BlkV w g T l) (hl : l.length = cs.length)
    (hi : (P.info? ty).map (·.size) = some cs.length) (h1 : cs.all (·.oneCell') = true)
    (hk : ∀ w', BlkV w g T l → BlkV w' g T cs → OnlyB g w w' → K a w') : op.wp P a w K Q :=
  wp_stB ty x y hd ho hx cs hy h hl hi h1 (fun w' hB hO => hk w' h hB hO)
set_option maxRecDepth 8000 in
set_option maxHeartbeats 16000000 in
theorem shifts_walk (t u : Tcp.T) (s st : Int) (w : World) (ht : t.ok w) (hu : u.ok w) (h0 : 0 ≤ s) (h1 : s ≤ 4294967295) (h2 : 0 ≤ st) (h3 : st ≤ 4294967295) :
    Calls Try.prog 4 #[.agg #[.int .i64 t.sp, .int .i64 t.dp, .int .u32 t.sq, .int .u32 t.ak, .int .i64 t.fl, .int .i64 t.wi, .int .i64 t.ur, .slice t.Ao t.no t.co, .slice t.Ab t.nb t.cb], .agg #[.int .i64 u.sp, .int .i64 u.dp, .int .u32 u.sq, .int .u32 u.ak, .int .i64 u.fl, .int .i64 u.wi, .int .i64 u.ur, .slice u.Ao u.no u.co, .slice u.Ab u.nb u.cb], .agg #[.int .u32 s, .int .u32 st]] w fun e w' => e = .returned (.bool true) ∧ Below w.heap.size w w' := by
  obtain ⟨W, hW⟩ : ∃ W, W = ((w.alloc (.cells #[.int .i64 t.sp, .int .i64 t.dp, .int .u32 t.sq, .int .u32 t.ak, .int .i64 t.fl, .int .i64 t.wi, .int .i64 t.ur, .slice t.Ao t.no t.co, .slice t.Ab t.nb t.cb] 26)).alloc (.cells #[.int .i64 u.sp, .int .i64 u.dp, .int .u32 u.sq, .int .u32 u.ak, .int .i64 u.fl, .int .i64 u.wi, .int .i64 u.ur, .slice u.Ao u.no u.co, .slice u.Ab u.nb u.cb] 26)).alloc (.cells #[.int .u32 s, .int .u32 st] 28) := ⟨_, rfl⟩
  have hbW : Below w.heap.size w W := (by rw [hW]; exact (((Below.refl _ _).alloc (Nat.le_refl _) _).alloc (by simp) _).alloc (by simp; omega) _)
  have B0 : BlkV W w.heap.size 26 [.int .i64 t.sp, .int .i64 t.dp, .int .u32 t.sq, .int .u32 t.ak, .int .i64 t.fl, .int .i64 t.wi, .int .i64 t.ur, .slice t.Ao t.no t.co, .slice t.Ab t.nb t.cb] := (by rw [hW]; exact ((BlkV.new w _ _).alloc _).alloc _)
  have B1 : BlkV W (w.heap.size + 1) 26 [.int .i64 u.sp, .int .i64 u.dp, .int .u32 u.sq, .int .u32 u.ak, .int .i64 u.fl, .int .i64 u.wi, .int .i64 u.ur, .slice u.Ao u.no u.co, .slice u.Ab u.nb u.cb] := (by rw [hW]; exact (BlkV.new_at (w.alloc (.cells #[.int .i64 t.sp, .int .i64 t.dp, .int .u32 t.sq, .int .u32 t.ak, .int .i64 t.fl, .int .i64 t.wi, .int .i64 t.ur, .slice t.Ao t.no t.co, .slice t.Ab t.nb t.cb] 26)) _ _ (by simp)).alloc _)
  have B2 : BlkV W (w.heap.size + 1 + 1) 28 [.int .u32 s, .int .u32 st] := (by rw [hW]; exact (BlkV.new_at ((w.alloc (.cells #[.int .i64 t.sp, .int .i64 t.dp, .int .u32 t.sq, .int .u32 t.ak, .int .i64 t.fl, .int .i64 t.wi, .int .i64 t.ur, .slice t.Ao t.no t.co, .slice t.Ab t.nb t.cb] 26)).alloc (.cells #[.int .i64 u.sp, .int .i64 u.dp, .int .u32 u.sq, .int .u32 u.ak, .int .i64 u.fl, .int .i64 u.wi, .int .i64 u.ur, .slice u.Ao u.no u.co, .slice u.Ab u.nb u.cb] 26)) _ _ (by simp)))
  have HA := Lib.hid (prox_awake W)
  go_enter Try.func4, Try.ntmps4
  go_upto_region 1 with (fail)
  rw [← hW]
  clear hW
  go_wp2_with fail
  refine HA.out.mono ?_
  rintro e w1 ⟨rfl, hb1⟩
  have B0a := B0.below hb1
  have B1a := B1.below hb1
  have B2a := B2.below hb1
  have hbw1 := bel_then hbW hb1
  have hs1 := hb1.size
  have HSH := Lib.hid (pshort_spec t w1 (ht.below hbw1))
  clear B0 B1 B2 hbW hb1 HA
  go_wp2_with (refine wpList_ldB 26 _ _ (by with_reducible rfl) rfl (by rfl) B0a Try.underlying26 rfl (tcp_size (by rfl)) ?_)
  refine HSH.out.mono ?_
  rintro e w2 ⟨b, rfl, hsm, hb2⟩
  have B0 := B0a.below hb2
  have B1 := B1a.below hb2
  have B2 := B2a.below hb2
  have hbw2 := bel_then hbw1 hb2
  have HSM := Lib.hid hsm
  have HSH2 := Lib.hid (pshort_spec u w2 (hu.below hbw2))
  clear B0a B1a B2a hbw1 hb2 HSH hsm hs1
  cases b
  · go_wp2_with fail
    go_ret
    exact ⟨rfl, hbw2⟩
  have HS := Lib.hid (HSM.out rfl)
  clear HSM
  obtain ⟨c0, c1, c2, c3, c4, c5, c6, c7, c8⟩ := cells9' B1
  go_wp2_with fail
  clear c0 c1 c2 c3 c4 c5 c6 c7 c8
  refine HSH2.out.mono ?_
  rintro e w3 ⟨b, rfl, hsm, hb3⟩
  have B0a := B0.below hb3
  have B1a := B1.below hb3
  have B2a := B2.below hb3
  have hbw3 := bel_then hbw2 hb3
  have HSM2 := Lib.hid hsm
  clear B0 B1 B2 hbw2 hb3 HSH2 hsm
  cases b
  · go_wp2_with fail
    go_ret
    exact ⟨rfl, hbw3⟩
  have HT := Lib.hid (ht.below (bel_a hbw3 (.cells #[.int .u32 ((-s) % 4294967296), .int .u32 ((-st) % 4294967296)] 28)))
  have HU := Lib.hid (hu.below (bel_a hbw3 (.cells #[.int .u32 ((-s) % 4294967296), .int .u32 ((-st) % 4294967296)] 28)))
  have HSU := Lib.hid (HSM2.out rfl)
  clear ht hu HSM2
  have d0 := B2a.cell (i := 0) rfl
  have d1 := B2a.cell (i := 1) rfl
  go_upto_region 6 with (fail)
  clear d0 d1
  obtain ⟨V, hV⟩ : ∃ V, V = w3.alloc (.cells #[.int .u32 ((-s) % 4294967296), .int .u32 ((-st) % 4294967296)] 28) := ⟨_, rfl⟩
  obtain ⟨p, hp⟩ : ∃ p, p = w3.heap.size := ⟨_, rfl⟩
  have hbV : Below w.heap.size w V := by rw [hV]; exact bel_a hbw3 _
  have hpV : p < V.heap.size := by rw [hV, hp]; simp
  rw [← hV] at HT HU
  have A0 : BlkV V w.heap.size 26 [.int .i64 t.sp, .int .i64 t.dp, .int .u32 t.sq, .int .u32 t.ak, .int .i64 t.fl, .int .i64 t.wi, .int .i64 t.ur, .slice t.Ao t.no t.co, .slice t.Ab t.nb t.cb] := by rw [hV]; exact B0a.alloc _
  have A1 : BlkV V (w.heap.size + 1) 26 [.int .i64 u.sp, .int .i64 u.dp, .int .u32 u.sq, .int .u32 u.ak, .int .i64 u.fl, .int .i64 u.wi, .int .i64 u.ur, .slice u.Ao u.no u.co, .slice u.Ab u.nb u.cb] := by rw [hV]; exact B1a.alloc _
  have A2 : BlkV V (w.heap.size + 1 + 1) 28 [.int .u32 s, .int .u32 st] := by rw [hV]; exact B2a.alloc _
  have A3 : BlkV V p 28 [.int .u32 ((-s) % 4294967296), .int .u32 ((-st) % 4294967296)] := by rw [hV]; exact BlkV.new_at w3 _ _ hp
  have KS : Hid (∀ w' : World, Below V.heap.size V w' → (w'.cell? ⟨w.heap.size, 0, none⟩ = some (.int .i64 t.sp) ∧ w'.cell? ⟨w.heap.size, 1, none⟩ = some (.int .i64 t.dp) ∧ w'.cell? ⟨w.heap.size, 2, none⟩ = some (.int .u32 t.sq) ∧ w'.cell? ⟨w.heap.size, 3, none⟩ = some (.int .u32 t.ak) ∧ w'.cell? ⟨w.heap.size, 4, none⟩ = some (.int .i64 t.fl) ∧ w'.cell? ⟨w.heap.size, 5, none⟩ = some (.int .i64 t.wi) ∧ w'.cell? ⟨w.heap.size, 6, none⟩ = some (.int .i64 t.ur) ∧ w'.cell? ⟨w.heap.size, 7, none⟩ = some (.slice t.Ao t.no t.co) ∧ w'.cell? ⟨w.heap.size, 8, none⟩ = some (.slice t.Ab t.nb t.cb) ∧ w'.cell? ⟨w.heap.size + 1, 0, none⟩ = some (.int .i64 u.sp) ∧ w'.cell? ⟨w.heap.size + 1, 1, none⟩ = some (.int .i64 u.dp) ∧ w'.cell? ⟨w.heap.size + 1, 2, none⟩ = some (.int .u32 u.sq) ∧ w'.cell? ⟨w.heap.size + 1, 3, none⟩ = some (.int .u32 u.ak) ∧ w'.cell? ⟨w.heap.size + 1, 4, none⟩ = some (.int .i64 u.fl) ∧ w'.cell? ⟨w.heap.size + 1, 5, none⟩ = some (.int .i64 u.wi) ∧ w'.cell? ⟨w.heap.size + 1, 6, none⟩ = some (.int .i64 u.ur) ∧ w'.cell? ⟨w.heap.size + 1, 7, none⟩ = some (.slice u.Ao u.no u.co) ∧ w'.cell? ⟨w.heap.size + 1, 8, none⟩ = some (.slice u.Ab u.nb u.cb) ∧ w'.cell? ⟨w.heap.size + 1 + 1, 0, none⟩ = some (.int .u32 s) ∧ w'.cell? ⟨w.heap.size + 1 + 1, 1, none⟩ = some (.int .u32 st))) := Lib.hid (by
    intro w' hb
    obtain ⟨c0, c1, c2, c3, c4, c5, c6, c7, c8⟩ := cells9' (A0.below hb)
    obtain ⟨d0, d1, d2, d3, d4, d5, d6, d7, d8⟩ := cells9' (A1.below hb)
    exact ⟨c0, c1, c2, c3, c4, c5, c6, c7, c8, d0, d1, d2, d3, d4, d5, d6, d7, d8, (A2.below hb).cell rfl, (A2.below hb).cell rfl⟩)
  have H6 : Hid (∀ w' : World, Below V.heap.size V w' → Calls Try.prog 8 #[.agg #[.int .i64 t.sp, .int .i64 t.dp, .int .u32 t.sq, .int .u32 t.ak, .int .i64 t.fl, .int .i64 t.wi, .int .i64 t.ur, .slice t.Ao t.no t.co, .slice t.Ab t.nb t.cb], .agg #[.int .u32 s, .int .u32 st]] w' fun e w'' => Below w'.heap.size w' w'' ∧ ∃ a : Tcp.T, e = .returned (.agg #[.int .i64 a.sp, .int .i64 a.dp, .int .u32 a.sq, .int .u32 a.ak, .int .i64 a.fl, .int .i64 a.wi, .int .i64 a.ur, .slice a.Ao a.no a.co, .slice a.Ab a.nb a.cb]) ∧ TOwn a w'' w'.heap.size ∧ a.con = Prox.toS s st t.con) := Lib.hid fun w' hb => ptos_spec t s st w' (HT.out.below hb) HS.out h0 h1 h2 h3
  have H7 : Hid (∀ w' : World, Below V.heap.size V w' → Calls Try.prog 9 #[.agg #[.int .i64 u.sp, .int .i64 u.dp, .int .u32 u.sq, .int .u32 u.ak, .int .i64 u.fl, .int .i64 u.wi, .int .i64 u.ur, .slice u.Ao u.no u.co, .slice u.Ab u.nb u.cb], .agg #[.int .u32 s, .int .u32 st]] w' fun e w'' => Below w'.heap.size w' w'' ∧ ∃ a : Tcp.T, e = .returned (.agg #[.int .i64 a.sp, .int .i64 a.dp, .int .u32 a.sq, .int .u32 a.ak, .int .i64 a.fl, .int .i64 a.wi, .int .i64 a.ur, .slice a.Ao a.no a.co, .slice a.Ab a.nb a.cb]) ∧ TOwn a w'' w'.heap.size ∧ a.con = Prox.toC s st u.con) := Lib.hid fun w' hb => ptoc_spec u s st w' (HU.out.below hb) HSU.out h0 h1 h2 h3
  have H8 : Hid (Below V.heap.size V V) := Lib.hid (Below.refl _ _)
  rw [← hV, ← hp]
  have hbn := H8.out
  have HA0 := Lib.hid A0
  have HA1 := Lib.hid A1
  have HA2 := Lib.hid A2
  have HA3 := Lib.hid A3
  clear B0a B1a B2a hV hp hbw3 A0 A1 A2 A3
  go_cut [8, 9] (fun s8 s9 wx => ∃ g8 g9 : Nat, ∃ a b : Tcp.T, s8 = .pointer (some ⟨g8, 0, none⟩) ∧ s9 = .pointer (some ⟨g9, 0, none⟩) ∧ Below V.heap.size V wx ∧ BlkV wx g8 26 a.cells ∧ BlkV wx g9 26 b.cells ∧ TOwn a wx V.heap.size ∧ TOwn b wx V.heap.size ∧ a.con = Prox.toS s st t.con ∧ b.con = Prox.toC s st u.con)
  case first =>
    refine wp_region_held_drew (S := fun w' => (w'.cell? ⟨w.heap.size, 0, none⟩ = some (.int .i64 t.sp) ∧ w'.cell? ⟨w.heap.size, 1, none⟩ = some (.int .i64 t.dp) ∧ w'.cell? ⟨w.heap.size, 2, none⟩ = some (.int .u32 t.sq) ∧ w'.cell? ⟨w.heap.size, 3, none⟩ = some (.int .u32 t.ak) ∧ w'.cell? ⟨w.heap.size, 4, none⟩ = some (.int .i64 t.fl) ∧ w'.cell? ⟨w.heap.size, 5, none⟩ = some (.int .i64 t.wi) ∧ w'.cell? ⟨w.heap.size, 6, none⟩ = some (.int .i64 t.ur) ∧ w'.cell? ⟨w.heap.size, 7, none⟩ = some (.slice t.Ao t.no t.co) ∧ w'.cell? ⟨w.heap.size, 8, none⟩ = some (.slice t.Ab t.nb t.cb) ∧ w'.cell? ⟨w.heap.size + 1, 0, none⟩ = some (.int .i64 u.sp) ∧ w'.cell? ⟨w.heap.size + 1, 1, none⟩ = some (.int .i64 u.dp) ∧ w'.cell? ⟨w.heap.size + 1, 2, none⟩ = some (.int .u32 u.sq) ∧ w'.cell? ⟨w.heap.size + 1, 3, none⟩ = some (.int .u32 u.ak) ∧ w'.cell? ⟨w.heap.size + 1, 4, none⟩ = some (.int .i64 u.fl) ∧ w'.cell? ⟨w.heap.size + 1, 5, none⟩ = some (.int .i64 u.wi) ∧ w'.cell? ⟨w.heap.size + 1, 6, none⟩ = some (.int .i64 u.ur) ∧ w'.cell? ⟨w.heap.size + 1, 7, none⟩ = some (.slice u.Ao u.no u.co) ∧ w'.cell? ⟨w.heap.size + 1, 8, none⟩ = some (.slice u.Ab u.nb u.cb) ∧ w'.cell? ⟨w.heap.size + 1 + 1, 0, none⟩ = some (.int .u32 s) ∧ w'.cell? ⟨w.heap.size + 1 + 1, 1, none⟩ = some (.int .u32 st))) (by kernel_rfl) (KS.out _ (by first | exact H8.out | exact bel_d H8.out)) (fun hHeld => ?_)
    have hn0 := H8.out
    refine wpAnyH_takeD (i := 0) (some 28) (v := ?_) rfl rfl (by kernel_rfl) (by kernel_rfl) (by kernel_rfl) (fun _ _ _ h => h) (Or.inl ⟨by rfl, ?_⟩) (by assumption) ?_
    rotate_left
    · (intro w hSw; (try dsimp only at hSw); go_simp; try with_reducible rfl)
    try simp only [Act.put, List.setIfInBounds_toArray, List.set_cons_zero, List.set_cons_succ]
    refine wpAnyH_takeD (i := 1) (some 29) (v := ?_) rfl rfl (by kernel_rfl) (by kernel_rfl) (by kernel_rfl) (fun _ _ _ h => h) (Or.inl ⟨by rfl, ?_⟩) (by assumption) ?_
    rotate_left
    · (intro w hSw; (try dsimp only at hSw); go_simp; try with_reducible rfl)
    try simp only [Act.put, List.setIfInBounds_toArray, List.set_cons_zero, List.set_cons_succ]
    refine wpAnyH_takeD (i := 3) (some 31) (v := ?_) rfl rfl (by kernel_rfl) (by kernel_rfl) (by kernel_rfl) (fun _ _ _ h => h) (Or.inl ⟨by rfl, ?_⟩) (by assumption) ?_
    rotate_left
    · (intro w hSw; (try dsimp only at hSw); go_simp; try with_reducible rfl)
    try simp only [Act.put, List.setIfInBounds_toArray, List.set_cons_zero, List.set_cons_succ]
    refine wpAnyH_takeD (i := 4) (some 32) (v := ?_) rfl rfl (by kernel_rfl) (by kernel_rfl) (by kernel_rfl) (fun _ _ _ h => h) (Or.inl ⟨by rfl, ?_⟩) (by assumption) ?_
    rotate_left
    · (intro w hSw; (try dsimp only at hSw); go_simp; try with_reducible rfl)
    try simp only [Act.put, List.setIfInBounds_toArray, List.set_cons_zero, List.set_cons_succ]
    refine wpAnyH_ready (rs := [2, 6, 7]) (by kernel_rfl) (by simp) ?_
    refine AllReadyH.cons (o := _) rfl (fun K hK => ?_) (AllReadyH.cons (o := _) rfl (fun K hK => ?_) (AllReadyH.cons (o := _) rfl (fun K hK => ?_) AllReadyH.nil))
    ·
      go_simp
      refine (H6.out _ (by first | exact hn0 | exact bel_d hn0 | exact bel_d (bel_d hn0))).mono ?_
      rintro e y1 ⟨hx, a, rfl, kx, cx⟩
      have hy : Below V.heap.size V y1 := (by first | exact hx | exact bel_then (bel_d (Below.refl V.heap.size V)) hx | exact bel_then (bel_d (bel_d (Below.refl V.heap.size V))) hx)
      have Ka1 := Lib.hid (kx.weak (show V.heap.size ≤ _ from hn0.size))
      have Ca := Lib.hid cx
      clear hx kx cx
      have hn1 := bel_then hn0 hy
      clear hy hn0 
      go_wp2_with fail
      refine hK.out _ _ (KS.out _ hn1) (fun hHeld => ?_)
      clear hK K
      try simp only [Act.put, List.setIfInBounds_toArray, List.set_cons_zero, List.set_cons_succ]
      refine wpAnyH_ready (rs := [5, 6, 7]) (by kernel_rfl) (by simp) ?_
      refine AllReadyH.cons (o := _) rfl (fun K hK => ?_) (AllReadyH.cons (o := _) rfl (fun K hK => ?_) (AllReadyH.cons (o := _) rfl (fun K hK => ?_) AllReadyH.nil))
      ·
        go_simp
        refine (H7.out _ (by first | exact hn1 | exact bel_d hn1 | exact bel_d (bel_d hn1))).mono ?_
        rintro e y2 ⟨hx, b, rfl, kx, cx⟩
        have hy : Below y1.heap.size y1 y2 := (by first | exact hx | exact bel_then (bel_d (Below.refl y1.heap.size y1)) hx | exact bel_then (bel_d (bel_d (Below.refl y1.heap.size y1))) hx)
        have Kb2 := Lib.hid (kx.weak (show V.heap.size ≤ _ from hn1.size))
        have Cb := Lib.hid cx
        clear hx kx cx
        have hn2 := bel_then hn1 hy
        have Ka2 := Lib.hid (Ka1.out.below hy)
        clear hy hn1 Ka1
        go_wp2_with fail
        refine hK.out _ _ (KS.out _ hn2) (fun hHeld => ?_)
        clear hK K
        try simp only [Act.put, List.setIfInBounds_toArray, List.set_cons_zero, List.set_cons_succ]
        refine wpAnyH_ready (rs := [6, 7]) (by kernel_rfl) (by simp) ?_
        refine AllReadyH.cons (o := _) rfl (fun K hK => ?_) (AllReadyH.cons (o := _) rfl (fun K hK => ?_) AllReadyH.nil)
        ·
          go_simp
          first | refine k_gen (fun y3 hx => ?_) | refine k_gend (fun y3 hx => ?_)
          have hy : Below y2.heap.size y2 y3 := by rw [hx]; first | exact bel_a (Below.refl _ _) _ | exact bel_a (bel_d (Below.refl _ _)) _ | exact bel_d (bel_a (Below.refl _ _) _)
          obtain ⟨g8, hg⟩ : ∃ g, g = y2.heap.size := ⟨_, rfl⟩
          have G83 : Hid (BlkV y3 g8 26 [.int .i64 0, .int .i64 0, .int .u32 0, .int .u32 0, .int .i64 0, .int .i64 0, .int .i64 0, .slice none 0 0, .slice none 0 0]) := Lib.hid (by rw [hx, hg]; first | exact BlkV.new_at _ _ _ rfl | exact BlkV.drewN (BlkV.new_at _ _ _ rfl) 1)
          have L8 := Lib.hid (show V.heap.size ≤ g8 by rw [hg]; exact hn2.size)
          rw [← hg]
          clear hx hg
          have hn3 := bel_then hn2 hy
          have Ka3 := Lib.hid (Ka2.out.below hy)
          have Kb3 := Lib.hid (Kb2.out.below hy)
          clear hy hn2 Ka2 Kb2
          refine hK.out _ _ (KS.out _ hn3) (fun hHeld => ?_)
          clear hK K
          try simp only [Act.put, List.setIfInBounds_toArray, List.set_cons_zero, List.set_cons_succ]
          refine wpAnyH_ready (rs := [7]) (by kernel_rfl) (by simp) ?_
          refine AllReadyH.cons (o := _) rfl (fun K hK => ?_) AllReadyH.nil
          go_simp
          first | refine k_gen (fun y4 hx => ?_) | refine k_gend (fun y4 hx => ?_)
          have hy : Below y3.heap.size y3 y4 := by rw [hx]; first | exact bel_a (Below.refl _ _) _ | exact bel_a (bel_d (Below.refl _ _)) _ | exact bel_d (bel_a (Below.refl _ _) _)
          obtain ⟨g9, hg⟩ : ∃ g, g = y3.heap.size := ⟨_, rfl⟩
          have G94 : Hid (BlkV y4 g9 26 [.int .i64 0, .int .i64 0, .int .u32 0, .int .u32 0, .int .i64 0, .int .i64 0, .int .i64 0, .slice none 0 0, .slice none 0 0]) := Lib.hid (by rw [hx, hg]; first | exact BlkV.new_at _ _ _ rfl | exact BlkV.drewN (BlkV.new_at _ _ _ rfl) 1)
          have L9 := Lib.hid (show V.heap.size ≤ g9 by rw [hg]; exact hn3.size)
          have NE := Lib.hid (show g8 ≠ g9 by have := G83.out.lt; omega)
          rw [← hg]
          clear hx hg
          have hn4 := bel_then hn3 hy
          have Ka4 := Lib.hid (Ka3.out.below hy)
          have Kb4 := Lib.hid (Kb3.out.below hy)
          have G84 := Lib.hid (G83.out.below hy)
          clear hy hn3 Ka3 Kb3 G83
          refine hK.out _ _ (KS.out _ hn4) (fun hHeld => ?_)
          clear hK K
          try simp only [Act.put, List.setIfInBounds_toArray, List.set_cons_zero, List.set_cons_succ]
          refine wpAnyH_ready (rs := [8]) (by kernel_rfl) (by simp) ?_
          refine AllReadyH.cons (o := _) rfl (fun K hK => ?_) AllReadyH.nil
          rw [if_pos (by rfl)]
          have q8 : BlkV y4 g8 26 [.int .i64 0, .int .i64 0, .int .u32 0, .int .u32 0, .int .i64 0, .int .i64 0, .int .i64 0, .slice none 0 0, .slice none 0 0] := G84.out
          refine wp_stB 26 _ _ rfl (by rfl) (by rfl) _ (by rfl) q8 (by rfl) (tcp_size (by rfl)) (by rfl) ?_
          intro z8 Z8 O8
          have q9 : BlkV z8 g9 26 [.int .i64 0, .int .i64 0, .int .u32 0, .int .u32 0, .int .i64 0, .int .i64 0, .int .i64 0, .slice none 0 0, .slice none 0 0] := BlkV.only (show BlkV y4 g9 26 [.int .i64 0, .int .i64 0, .int .u32 0, .int .u32 0, .int .i64 0, .int .i64 0, .int .i64 0, .slice none 0 0, .slice none 0 0] from G94.out) O8 (fun h => NE.out h.symm)
          have ka8 := Ka4.out.store q8 O8 (by decide) (by decide)
          have kb8 := Kb4.out.store q8 O8 (by decide) (by decide)
          have hz8 := O8.bel L8.out hn4
          clear q8 O8
          refine hK.out _ _ (KS.out _ hz8) (fun hHeld => ?_)
          clear hK K
          try simp only [Act.put, List.setIfInBounds_toArray, List.set_cons_zero, List.set_cons_succ]
          refine wpAnyH_ready (rs := [9]) (by kernel_rfl) (by simp) ?_
          refine AllReadyH.cons (o := _) rfl (fun K hK => ?_) AllReadyH.nil
          rw [if_pos (by rfl)]
          have q9' : BlkV z8 g9 26 [.int .i64 0, .int .i64 0, .int .u32 0, .int .u32 0, .int .i64 0, .int .i64 0, .int .i64 0, .slice none 0 0, .slice none 0 0] := q9
          refine wp_stB 26 _ _ rfl (by rfl) (by rfl) _ (by rfl) q9' (by rfl) (tcp_size (by rfl)) (by rfl) ?_
          intro z9 Z9 O9
          have Z8' := BlkV.only (show BlkV z8 g8 26 _ from Z8) O9 NE.out
          have ka9 := Lib.hid (ka8.store q9' O9 (by decide) (by decide))
          have kb9 := Lib.hid (kb8.store q9' O9 (by decide) (by decide))
          have hz9 := O9.bel L9.out hz8
          have Z8h := Lib.hid Z8'
          have Z9h := Lib.hid Z9
          clear q9 q9' O9 Z8 Z8' Z9 ka8 kb8 hz8
          refine hK.out _ _ (KS.out _ hz9) (fun hHeld => ?_)
          clear hK K
          try simp only [Act.put, List.setIfInBounds_toArray, List.set_cons_zero, List.set_cons_succ]
          refine wpAnyH_done (by kernel_rfl) ?_ _
          go_wp2_with fail
          go_meet
          exact ⟨g8, g9, a, b, rfl, rfl, hz9, Z8h.out, Z9h.out, ka9.out, kb9.out, Ca.out, Cb.out⟩
        ·
          go_simp
          first | refine k_gen (fun y3 hx => ?_) | refine k_gend (fun y3 hx => ?_)
          have hy : Below y2.heap.size y2 y3 := by rw [hx]; first | exact bel_a (Below.refl _ _) _ | exact bel_a (bel_d (Below.refl _ _)) _ | exact bel_d (bel_a (Below.refl _ _) _)
          obtain ⟨g9, hg⟩ : ∃ g, g = y2.heap.size := ⟨_, rfl⟩
          have G93 : Hid (BlkV y3 g9 26 [.int .i64 0, .int .i64 0, .int .u32 0, .int .u32 0, .int .i64 0, .int .i64 0, .int .i64 0, .slice none 0 0, .slice none 0 0]) := Lib.hid (by rw [hx, hg]; first | exact BlkV.new_at _ _ _ rfl | exact BlkV.drewN (BlkV.new_at _ _ _ rfl) 1)
          have L9 := Lib.hid (show V.heap.size ≤ g9 by rw [hg]; exact hn2.size)
          rw [← hg]
          clear hx hg
          have hn3 := bel_then hn2 hy
          have Ka3 := Lib.hid (Ka2.out.below hy)
          have Kb3 := Lib.hid (Kb2.out.below hy)
          clear hy hn2 Ka2 Kb2
          refine hK.out _ _ (KS.out _ hn3) (fun hHeld => ?_)
          clear hK K
          try simp only [Act.put, List.setIfInBounds_toArray, List.set_cons_zero, List.set_cons_succ]
          refine wpAnyH_ready (rs := [6]) (by kernel_rfl) (by simp) ?_
          refine AllReadyH.cons (o := _) rfl (fun K hK => ?_) AllReadyH.nil
          go_simp
          first | refine k_gen (fun y4 hx => ?_) | refine k_gend (fun y4 hx => ?_)
          have hy : Below y3.heap.size y3 y4 := by rw [hx]; first | exact bel_a (Below.refl _ _) _ | exact bel_a (bel_d (Below.refl _ _)) _ | exact bel_d (bel_a (Below.refl _ _) _)
          obtain ⟨g8, hg⟩ : ∃ g, g = y3.heap.size := ⟨_, rfl⟩
          have G84 : Hid (BlkV y4 g8 26 [.int .i64 0, .int .i64 0, .int .u32 0, .int .u32 0, .int .i64 0, .int .i64 0, .int .i64 0, .slice none 0 0, .slice none 0 0]) := Lib.hid (by rw [hx, hg]; first | exact BlkV.new_at _ _ _ rfl | exact BlkV.drewN (BlkV.new_at _ _ _ rfl) 1)
          have L8 := Lib.hid (show V.heap.size ≤ g8 by rw [hg]; exact hn3.size)
          have NE := Lib.hid (show g8 ≠ g9 by have := G93.out.lt; omega)
          rw [← hg]
          clear hx hg
          have hn4 := bel_then hn3 hy
          have Ka4 := Lib.hid (Ka3.out.below hy)
          have Kb4 := Lib.hid (Kb3.out.below hy)
          have G94 := Lib.hid (G93.out.below hy)
          clear hy hn3 Ka3 Kb3 G93
          refine hK.out _ _ (KS.out _ hn4) (fun hHeld => ?_)
          clear hK K
          try simp only [Act.put, List.setIfInBounds_toArray, List.set_cons_zero, List.set_cons_succ]
          refine wpAnyH_ready (rs := [8]) (by kernel_rfl) (by simp) ?_
          refine AllReadyH.cons (o := _) rfl (fun K hK => ?_) AllReadyH.nil
          rw [if_pos (by rfl)]
          have q8 : BlkV y4 g8 26 [.int .i64 0, .int .i64 0, .int .u32 0, .int .u32 0, .int .i64 0, .int .i64 0, .int .i64 0, .slice none 0 0, .slice none 0 0] := G84.out
          refine wp_stB 26 _ _ rfl (by rfl) (by rfl) _ (by rfl) q8 (by rfl) (tcp_size (by rfl)) (by rfl) ?_
          intro z8 Z8 O8
          have q9 : BlkV z8 g9 26 [.int .i64 0, .int .i64 0, .int .u32 0, .int .u32 0, .int .i64 0, .int .i64 0, .int .i64 0, .slice none 0 0, .slice none 0 0] := BlkV.only (show BlkV y4 g9 26 [.int .i64 0, .int .i64 0, .int .u32 0, .int .u32 0, .int .i64 0, .int .i64 0, .int .i64 0, .slice none 0 0, .slice none 0 0] from G94.out) O8 (fun h => NE.out h.symm)
          have ka8 := Ka4.out.store q8 O8 (by decide) (by decide)
          have kb8 := Kb4.out.store q8 O8 (by decide) (by decide)
          have hz8 := O8.bel L8.out hn4
          clear q8 O8
          refine hK.out _ _ (KS.out _ hz8) (fun hHeld => ?_)
          clear hK K
          try simp only [Act.put, List.setIfInBounds_toArray, List.set_cons_zero, List.set_cons_succ]
          refine wpAnyH_ready (rs := [9]) (by kernel_rfl) (by simp) ?_
          refine AllReadyH.cons (o := _) rfl (fun K hK => ?_) AllReadyH.nil
          rw [if_pos (by rfl)]
          have q9' : BlkV z8 g9 26 [.int .i64 0, .int .i64 0, .int .u32 0, .int .u32 0, .int .i64 0, .int .i64 0, .int .i64 0, .slice none 0 0, .slice none 0 0] := q9
          refine wp_stB 26 _ _ rfl (by rfl) (by rfl) _ (by rfl) q9' (by rfl) (tcp_size (by rfl)) (by rfl) ?_
          intro z9 Z9 O9
          have Z8' := BlkV.only (show BlkV z8 g8 26 _ from Z8) O9 NE.out
          have ka9 := Lib.hid (ka8.store q9' O9 (by decide) (by decide))
          have kb9 := Lib.hid (kb8.store q9' O9 (by decide) (by decide))
          have hz9 := O9.bel L9.out hz8
          have Z8h := Lib.hid Z8'
          have Z9h := Lib.hid Z9
          clear q9 q9' O9 Z8 Z8' Z9 ka8 kb8 hz8
          refine hK.out _ _ (KS.out _ hz9) (fun hHeld => ?_)
          clear hK K
          try simp only [Act.put, List.setIfInBounds_toArray, List.set_cons_zero, List.set_cons_succ]
          refine wpAnyH_done (by kernel_rfl) ?_ _
          go_wp2_with fail
          go_meet
          exact ⟨g8, g9, a, b, rfl, rfl, hz9, Z8h.out, Z9h.out, ka9.out, kb9.out, Ca.out, Cb.out⟩
      ·
        go_simp
        first | refine k_gen (fun y2 hx => ?_) | refine k_gend (fun y2 hx => ?_)
        have hy : Below y1.heap.size y1 y2 := by rw [hx]; first | exact bel_a (Below.refl _ _) _ | exact bel_a (bel_d (Below.refl _ _)) _ | exact bel_d (bel_a (Below.refl _ _) _)
        obtain ⟨g8, hg⟩ : ∃ g, g = y1.heap.size := ⟨_, rfl⟩
        have G82 : Hid (BlkV y2 g8 26 [.int .i64 0, .int .i64 0, .int .u32 0, .int .u32 0, .int .i64 0, .int .i64 0, .int .i64 0, .slice none 0 0, .slice none 0 0]) := Lib.hid (by rw [hx, hg]; first | exact BlkV.new_at _ _ _ rfl | exact BlkV.drewN (BlkV.new_at _ _ _ rfl) 1)
        have L8 := Lib.hid (show V.heap.size ≤ g8 by rw [hg]; exact hn1.size)
        rw [← hg]
        clear hx hg
        have hn2 := bel_then hn1 hy
        have Ka2 := Lib.hid (Ka1.out.below hy)
        clear hy hn1 Ka1
        refine hK.out _ _ (KS.out _ hn2) (fun hHeld => ?_)
        clear hK K
        try simp only [Act.put, List.setIfInBounds_toArray, List.set_cons_zero, List.set_cons_succ]
        refine wpAnyH_ready (rs := [5, 7]) (by kernel_rfl) (by simp) ?_
        refine AllReadyH.cons (o := _) rfl (fun K hK => ?_) (AllReadyH.cons (o := _) rfl (fun K hK => ?_) AllReadyH.nil)
        ·
          go_simp
          refine (H7.out _ (by first | exact hn2 | exact bel_d hn2 | exact bel_d (bel_d hn2))).mono ?_
          rintro e y3 ⟨hx, b, rfl, kx, cx⟩
          have hy : Below y2.heap.size y2 y3 := (by first | exact hx | exact bel_then (bel_d (Below.refl y2.heap.size y2)) hx | exact bel_then (bel_d (bel_d (Below.refl y2.heap.size y2))) hx)
          have Kb3 := Lib.hid (kx.weak (show V.heap.size ≤ _ from hn2.size))
          have Cb := Lib.hid cx
          clear hx kx cx
          have hn3 := bel_then hn2 hy
          have Ka3 := Lib.hid (Ka2.out.below hy)
          have G83 := Lib.hid (G82.out.below hy)
          clear hy hn2 Ka2 G82
          go_wp2_with fail
          refine hK.out _ _ (KS.out _ hn3) (fun hHeld => ?_)
          clear hK K
          try simp only [Act.put, List.setIfInBounds_toArray, List.set_cons_zero, List.set_cons_succ]
          refine wpAnyH_ready (rs := [7]) (by kernel_rfl) (by simp) ?_
          refine AllReadyH.cons (o := _) rfl (fun K hK => ?_) AllReadyH.nil
          go_simp
          first | refine k_gen (fun y4 hx => ?_) | refine k_gend (fun y4 hx => ?_)
          have hy : Below y3.heap.size y3 y4 := by rw [hx]; first | exact bel_a (Below.refl _ _) _ | exact bel_a (bel_d (Below.refl _ _)) _ | exact bel_d (bel_a (Below.refl _ _) _)
          obtain ⟨g9, hg⟩ : ∃ g, g = y3.heap.size := ⟨_, rfl⟩
          have G94 : Hid (BlkV y4 g9 26 [.int .i64 0, .int .i64 0, .int .u32 0, .int .u32 0, .int .i64 0, .int .i64 0, .int .i64 0, .slice none 0 0, .slice none 0 0]) := Lib.hid (by rw [hx, hg]; first | exact BlkV.new_at _ _ _ rfl | exact BlkV.drewN (BlkV.new_at _ _ _ rfl) 1)
          have L9 := Lib.hid (show V.heap.size ≤ g9 by rw [hg]; exact hn3.size)
          have NE := Lib.hid (show g8 ≠ g9 by have := G83.out.lt; omega)
          rw [← hg]
          clear hx hg
          have hn4 := bel_then hn3 hy
          have Ka4 := Lib.hid (Ka3.out.below hy)
          have G84 := Lib.hid (G83.out.below hy)
          have Kb4 := Lib.hid (Kb3.out.below hy)
          clear hy hn3 Ka3 G83 Kb3
          refine hK.out _ _ (KS.out _ hn4) (fun hHeld => ?_)
          clear hK K
          try simp only [Act.put, List.setIfInBounds_toArray, List.set_cons_zero, List.set_cons_succ]
          refine wpAnyH_ready (rs := [8]) (by kernel_rfl) (by simp) ?_
          refine AllReadyH.cons (o := _) rfl (fun K hK => ?_) AllReadyH.nil
          rw [if_pos (by rfl)]
          have q8 : BlkV y4 g8 26 [.int .i64 0, .int .i64 0, .int .u32 0, .int .u32 0, .int .i64 0, .int .i64 0, .int .i64 0, .slice none 0 0, .slice none 0 0] := G84.out
          refine wp_stB 26 _ _ rfl (by rfl) (by rfl) _ (by rfl) q8 (by rfl) (tcp_size (by rfl)) (by rfl) ?_
          intro z8 Z8 O8
          have q9 : BlkV z8 g9 26 [.int .i64 0, .int .i64 0, .int .u32 0, .int .u32 0, .int .i64 0, .int .i64 0, .int .i64 0, .slice none 0 0, .slice none 0 0] := BlkV.only (show BlkV y4 g9 26 [.int .i64 0, .int .i64 0, .int .u32 0, .int .u32 0, .int .i64 0, .int .i64 0, .int .i64 0, .slice none 0 0, .slice none 0 0] from G94.out) O8 (fun h => NE.out h.symm)
          have ka8 := Ka4.out.store q8 O8 (by decide) (by decide)
          have kb8 := Kb4.out.store q8 O8 (by decide) (by decide)
          have hz8 := O8.bel L8.out hn4
          clear q8 O8
          refine hK.out _ _ (KS.out _ hz8) (fun hHeld => ?_)
          clear hK K
          try simp only [Act.put, List.setIfInBounds_toArray, List.set_cons_zero, List.set_cons_succ]
          refine wpAnyH_ready (rs := [9]) (by kernel_rfl) (by simp) ?_
          refine AllReadyH.cons (o := _) rfl (fun K hK => ?_) AllReadyH.nil
          rw [if_pos (by rfl)]
          have q9' : BlkV z8 g9 26 [.int .i64 0, .int .i64 0, .int .u32 0, .int .u32 0, .int .i64 0, .int .i64 0, .int .i64 0, .slice none 0 0, .slice none 0 0] := q9
          refine wp_stB 26 _ _ rfl (by rfl) (by rfl) _ (by rfl) q9' (by rfl) (tcp_size (by rfl)) (by rfl) ?_
          intro z9 Z9 O9
          have Z8' := BlkV.only (show BlkV z8 g8 26 _ from Z8) O9 NE.out
          have ka9 := Lib.hid (ka8.store q9' O9 (by decide) (by decide))
          have kb9 := Lib.hid (kb8.store q9' O9 (by decide) (by decide))
          have hz9 := O9.bel L9.out hz8
          have Z8h := Lib.hid Z8'
          have Z9h := Lib.hid Z9
          clear q9 q9' O9 Z8 Z8' Z9 ka8 kb8 hz8
          refine hK.out _ _ (KS.out _ hz9) (fun hHeld => ?_)
          clear hK K
          try simp only [Act.put, List.setIfInBounds_toArray, List.set_cons_zero, List.set_cons_succ]
          refine wpAnyH_done (by kernel_rfl) ?_ _
          go_wp2_with fail
          go_meet
          exact ⟨g8, g9, a, b, rfl, rfl, hz9, Z8h.out, Z9h.out, ka9.out, kb9.out, Ca.out, Cb.out⟩
        ·
          go_simp
          first | refine k_gen (fun y3 hx => ?_) | refine k_gend (fun y3 hx => ?_)
          have hy : Below y2.heap.size y2 y3 := by rw [hx]; first | exact bel_a (Below.refl _ _) _ | exact bel_a (bel_d (Below.refl _ _)) _ | exact bel_d (bel_a (Below.refl _ _) _)
          obtain ⟨g9, hg⟩ : ∃ g, g = y2.heap.size := ⟨_, rfl⟩
          have G93 : Hid (BlkV y3 g9 26 [.int .i64 0, .int .i64 0, .int .u32 0, .int .u32 0, .int .i64 0, .int .i64 0, .int .i64 0, .slice none 0 0, .slice none 0 0]) := Lib.hid (by rw [hx, hg]; first | exact BlkV.new_at _ _ _ rfl | exact BlkV.drewN (BlkV.new_at _ _ _ rfl) 1)
          have L9 := Lib.hid (show V.heap.size ≤ g9 by rw [hg]; exact hn2.size)
          have NE := Lib.hid (show g8 ≠ g9 by have := G82.out.lt; omega)
          rw [← hg]
          clear hx hg
          have hn3 := bel_then hn2 hy
          have Ka3 := Lib.hid (Ka2.out.below hy)
          have G83 := Lib.hid (G82.out.below hy)
          clear hy hn2 Ka2 G82
          refine hK.out _ _ (KS.out _ hn3) (fun hHeld => ?_)
          clear hK K
          try simp only [Act.put, List.setIfInBounds_toArray, List.set_cons_zero, List.set_cons_succ]
          refine wpAnyH_ready (rs := [5]) (by kernel_rfl) (by simp) ?_
          refine AllReadyH.cons (o := _) rfl (fun K hK => ?_) AllReadyH.nil
          go_simp
          refine (H7.out _ (by first | exact hn3 | exact bel_d hn3 | exact bel_d (bel_d hn3))).mono ?_
          rintro e y4 ⟨hx, b, rfl, kx, cx⟩
          have hy : Below y3.heap.size y3 y4 := (by first | exact hx | exact bel_then (bel_d (Below.refl y3.heap.size y3)) hx | exact bel_then (bel_d (bel_d (Below.refl y3.heap.size y3))) hx)
          have Kb4 := Lib.hid (kx.weak (show V.heap.size ≤ _ from hn3.size))
          have Cb := Lib.hid cx
          clear hx kx cx
          have hn4 := bel_then hn3 hy
          have Ka4 := Lib.hid (Ka3.out.below hy)
          have G84 := Lib.hid (G83.out.below hy)
          have G94 := Lib.hid (G93.out.below hy)
          clear hy hn3 Ka3 G83 G93
          go_wp2_with fail
          refine hK.out _ _ (KS.out _ hn4) (fun hHeld => ?_)
          clear hK K
          try simp only [Act.put, List.setIfInBounds_toArray, List.set_cons_zero, List.set_cons_succ]
          refine wpAnyH_ready (rs := [8]) (by kernel_rfl) (by simp) ?_
          refine AllReadyH.cons (o := _) rfl (fun K hK => ?_) AllReadyH.nil
          rw [if_pos (by rfl)]
          have q8 : BlkV y4 g8 26 [.int .i64 0, .int .i64 0, .int .u32 0, .int .u32 0, .int .i64 0, .int .i64 0, .int .i64 0, .slice none 0 0, .slice none 0 0] := G84.out
          refine wp_stB 26 _ _ rfl (by rfl) (by rfl) _ (by rfl) q8 (by rfl) (tcp_size (by rfl)) (by rfl) ?_
          intro z8 Z8 O8
          have q9 : BlkV z8 g9 26 [.int .i64 0, .int .i64 0, .int .u32 0, .int .u32 0, .int .i64 0, .int .i64 0, .int .i64 0, .slice none 0 0, .slice none 0 0] := BlkV.only (show BlkV y4 g9 26 [.int .i64 0, .int .i64 0, .int .u32 0, .int .u32 0, .int .i64 0, .int .i64 0, .int .i64 0, .slice none 0 0, .slice none 0 0] from G94.out) O8 (fun h => NE.out h.symm)
          have ka8 := Ka4.out.store q8 O8 (by decide) (by decide)
          have kb8 := Kb4.out.store q8 O8 (by decide) (by decide)
          have hz8 := O8.bel L8.out hn4
          clear q8 O8
          refine hK.out _ _ (KS.out _ hz8) (fun hHeld => ?_)
          clear hK K
          try simp only [Act.put, List.setIfInBounds_toArray, List.set_cons_zero, List.set_cons_succ]
          refine wpAnyH_ready (rs := [9]) (by kernel_rfl) (by simp) ?_
          refine AllReadyH.cons (o := _) rfl (fun K hK => ?_) AllReadyH.nil
          rw [if_pos (by rfl)]
          have q9' : BlkV z8 g9 26 [.int .i64 0, .int .i64 0, .int .u32 0, .int .u32 0, .int .i64 0, .int .i64 0, .int .i64 0, .slice none 0 0, .slice none 0 0] := q9
          refine wp_stB 26 _ _ rfl (by rfl) (by rfl) _ (by rfl) q9' (by rfl) (tcp_size (by rfl)) (by rfl) ?_
          intro z9 Z9 O9
          have Z8' := BlkV.only (show BlkV z8 g8 26 _ from Z8) O9 NE.out
          have ka9 := Lib.hid (ka8.store q9' O9 (by decide) (by decide))
          have kb9 := Lib.hid (kb8.store q9' O9 (by decide) (by decide))
          have hz9 := O9.bel L9.out hz8
          have Z8h := Lib.hid Z8'
          have Z9h := Lib.hid Z9
          clear q9 q9' O9 Z8 Z8' Z9 ka8 kb8 hz8
          refine hK.out _ _ (KS.out _ hz9) (fun hHeld => ?_)
          clear hK K
          try simp only [Act.put, List.setIfInBounds_toArray, List.set_cons_zero, List.set_cons_succ]
          refine wpAnyH_done (by kernel_rfl) ?_ _
          go_wp2_with fail
          go_meet
          exact ⟨g8, g9, a, b, rfl, rfl, hz9, Z8h.out, Z9h.out, ka9.out, kb9.out, Ca.out, Cb.out⟩
      ·
        go_simp
        first | refine k_gen (fun y2 hx => ?_) | refine k_gend (fun y2 hx => ?_)
        have hy : Below y1.heap.size y1 y2 := by rw [hx]; first | exact bel_a (Below.refl _ _) _ | exact bel_a (bel_d (Below.refl _ _)) _ | exact bel_d (bel_a (Below.refl _ _) _)
        obtain ⟨g9, hg⟩ : ∃ g, g = y1.heap.size := ⟨_, rfl⟩
        have G92 : Hid (BlkV y2 g9 26 [.int .i64 0, .int .i64 0, .int .u32 0, .int .u32 0, .int .i64 0, .int .i64 0, .int .i64 0, .slice none 0 0, .slice none 0 0]) := Lib.hid (by rw [hx, hg]; first | exact BlkV.new_at _ _ _ rfl | exact BlkV.drewN (BlkV.new_at _ _ _ rfl) 1)
        have L9 := Lib.hid (show V.heap.size ≤ g9 by rw [hg]; exact hn1.size)
        rw [← hg]
        clear hx hg
        have hn2 := bel_then hn1 hy
        have Ka2 := Lib.hid (Ka1.out.below hy)
        clear hy hn1 Ka1
        refine hK.out _ _ (KS.out _ hn2) (fun hHeld => ?_)
        clear hK K
        try simp only [Act.put, List.setIfInBounds_toArray, List.set_cons_zero, List.set_cons_succ]
        refine wpAnyH_ready (rs := [5, 6]) (by kernel_rfl) (by simp) ?_
        refine AllReadyH.cons (o := _) rfl (fun K hK => ?_) (AllReadyH.cons (o := _) rfl (fun K hK => ?_) AllReadyH.nil)
        ·
          go_simp
          refine (H7.out _ (by first | exact hn2 | exact bel_d hn2 | exact bel_d (bel_d hn2))).mono ?_
          rintro e y3 ⟨hx, b, rfl, kx, cx⟩
          have hy : Below y2.heap.size y2 y3 := (by first | exact hx | exact bel_then (bel_d (Below.refl y2.heap.size y2)) hx | exact bel_then (bel_d (bel_d (Below.refl y2.heap.size y2))) hx)
          have Kb3 := Lib.hid (kx.weak (show V.heap.size ≤ _ from hn2.size))
          have Cb := Lib.hid cx
          clear hx kx cx
          have hn3 := bel_then hn2 hy
          have Ka3 := Lib.hid (Ka2.out.below hy)
          have G93 := Lib.hid (G92.out.below hy)
          clear hy hn2 Ka2 G92
          go_wp2_with fail
          refine hK.out _ _ (KS.out _ hn3) (fun hHeld => ?_)
          clear hK K
          try simp only [Act.put, List.setIfInBounds_toArray, List.set_cons_zero, List.set_cons_succ]
          refine wpAnyH_ready (rs := [6]) (by kernel_rfl) (by simp) ?_
          refine AllReadyH.cons (o := _) rfl (fun K hK => ?_) AllReadyH.nil
          go_simp
          first | refine k_gen (fun y4 hx => ?_) | refine k_gend (fun y4 hx => ?_)
          have hy : Below y3.heap.size y3 y4 := by rw [hx]; first | exact bel_a (Below.refl _ _) _ | exact bel_a (bel_d (Below.refl _ _)) _ | exact bel_d (bel_a (Below.refl _ _) _)
          obtain ⟨g8, hg⟩ : ∃ g, g = y3.heap.size := ⟨_, rfl⟩
          have G84 : Hid (BlkV y4 g8 26 [.int .i64 0, .int .i64 0, .int .u32 0, .int .u32 0, .int .i64 0, .int .i64 0, .int .i64 0, .slice none 0 0, .slice none 0 0]) := Lib.hid (by rw [hx, hg]; first | exact BlkV.new_at _ _ _ rfl | exact BlkV.drewN (BlkV.new_at _ _ _ rfl) 1)
          have L8 := Lib.hid (show V.heap.size ≤ g8 by rw [hg]; exact hn3.size)
          have NE := Lib.hid (show g8 ≠ g9 by have := G93.out.lt; omega)
          rw [← hg]
          clear hx hg
          have hn4 := bel_then hn3 hy
          have Ka4 := Lib.hid (Ka3.out.below hy)
          have G94 := Lib.hid (G93.out.below hy)
          have Kb4 := Lib.hid (Kb3.out.below hy)
          clear hy hn3 Ka3 G93 Kb3
          refine hK.out _ _ (KS.out _ hn4) (fun hHeld => ?_)
          clear hK K
          try simp only [Act.put, List.setIfInBounds_toArray, List.set_cons_zero, List.set_cons_succ]
          refine wpAnyH_ready (rs := [8]) (by kernel_rfl) (by simp) ?_
          refine AllReadyH.cons (o := _) rfl (fun K hK => ?_) AllReadyH.nil
          rw [if_pos (by rfl)]
          have q8 : BlkV y4 g8 26 [.int .i64 0, .int .i64 0, .int .u32 0, .int .u32 0, .int .i64 0, .int .i64 0, .int .i64 0, .slice none 0 0, .slice none 0 0] := G84.out
          refine wp_stB 26 _ _ rfl (by rfl) (by rfl) _ (by rfl) q8 (by rfl) (tcp_size (by rfl)) (by rfl) ?_
          intro z8 Z8 O8
          have q9 : BlkV z8 g9 26 [.int .i64 0, .int .i64 0, .int .u32 0, .int .u32 0, .int .i64 0, .int .i64 0, .int .i64 0, .slice none 0 0, .slice none 0 0] := BlkV.only (show BlkV y4 g9 26 [.int .i64 0, .int .i64 0, .int .u32 0, .int .u32 0, .int .i64 0, .int .i64 0, .int .i64 0, .slice none 0 0, .slice none 0 0] from G94.out) O8 (fun h => NE.out h.symm)
          have ka8 := Ka4.out.store q8 O8 (by decide) (by decide)
          have kb8 := Kb4.out.store q8 O8 (by decide) (by decide)
          have hz8 := O8.bel L8.out hn4
          clear q8 O8
          refine hK.out _ _ (KS.out _ hz8) (fun hHeld => ?_)
          clear hK K
          try simp only [Act.put, List.setIfInBounds_toArray, List.set_cons_zero, List.set_cons_succ]
          refine wpAnyH_ready (rs := [9]) (by kernel_rfl) (by simp) ?_
          refine AllReadyH.cons (o := _) rfl (fun K hK => ?_) AllReadyH.nil
          rw [if_pos (by rfl)]
          have q9' : BlkV z8 g9 26 [.int .i64 0, .int .i64 0, .int .u32 0, .int .u32 0, .int .i64 0, .int .i64 0, .int .i64 0, .slice none 0 0, .slice none 0 0] := q9
          refine wp_stB 26 _ _ rfl (by rfl) (by rfl) _ (by rfl) q9' (by rfl) (tcp_size (by rfl)) (by rfl) ?_
          intro z9 Z9 O9
          have Z8' := BlkV.only (show BlkV z8 g8 26 _ from Z8) O9 NE.out
          have ka9 := Lib.hid (ka8.store q9' O9 (by decide) (by decide))
          have kb9 := Lib.hid (kb8.store q9' O9 (by decide) (by decide))
          have hz9 := O9.bel L9.out hz8
          have Z8h := Lib.hid Z8'
          have Z9h := Lib.hid Z9
          clear q9 q9' O9 Z8 Z8' Z9 ka8 kb8 hz8
          refine hK.out _ _ (KS.out _ hz9) (fun hHeld => ?_)
          clear hK K
          try simp only [Act.put, List.setIfInBounds_toArray, List.set_cons_zero, List.set_cons_succ]
          refine wpAnyH_done (by kernel_rfl) ?_ _
          go_wp2_with fail
          go_meet
          exact ⟨g8, g9, a, b, rfl, rfl, hz9, Z8h.out, Z9h.out, ka9.out, kb9.out, Ca.out, Cb.out⟩
        ·
          go_simp
          first | refine k_gen (fun y3 hx => ?_) | refine k_gend (fun y3 hx => ?_)
          have hy : Below y2.heap.size y2 y3 := by rw [hx]; first | exact bel_a (Below.refl _ _) _ | exact bel_a (bel_d (Below.refl _ _)) _ | exact bel_d (bel_a (Below.refl _ _) _)
          obtain ⟨g8, hg⟩ : ∃ g, g = y2.heap.size := ⟨_, rfl⟩
          have G83 : Hid (BlkV y3 g8 26 [.int .i64 0, .int .i64 0, .int .u32 0, .int .u32 0, .int .i64 0, .int .i64 0, .int .i64 0, .slice none 0 0, .slice none 0 0]) := Lib.hid (by rw [hx, hg]; first | exact BlkV.new_at _ _ _ rfl | exact BlkV.drewN (BlkV.new_at _ _ _ rfl) 1)
          have L8 := Lib.hid (show V.heap.size ≤ g8 by rw [hg]; exact hn2.size)
          have NE := Lib.hid (show g8 ≠ g9 by have := G92.out.lt; omega)
          rw [← hg]
          clear hx hg
          have hn3 := bel_then hn2 hy
          have Ka3 := Lib.hid (Ka2.out.below hy)
          have G93 := Lib.hid (G92.out.below hy)
          clear hy hn2 Ka2 G92
          refine hK.out _ _ (KS.out _ hn3) (fun hHeld => ?_)
          clear hK K
          try simp only [Act.put, List.setIfInBounds_toArray, List.set_cons_zero, List.set_cons_succ]
          refine wpAnyH_ready (rs := [5]) (by kernel_rfl) (by simp) ?_
          refine AllReadyH.cons (o := _) rfl (fun K hK => ?_) AllReadyH.nil
          go_simp
          refine (H7.out _ (by first | exact hn3 | exact bel_d hn3 | exact bel_d (bel_d hn3))).mono ?_
          rintro e y4 ⟨hx, b, rfl, kx, cx⟩
          have hy : Below y3.heap.size y3 y4 := (by first | exact hx | exact bel_then (bel_d (Below.refl y3.heap.size y3)) hx | exact bel_then (bel_d (bel_d (Below.refl y3.heap.size y3))) hx)
          have Kb4 := Lib.hid (kx.weak (show V.heap.size ≤ _ from hn3.size))
          have Cb := Lib.hid cx
          clear hx kx cx
          have hn4 := bel_then hn3 hy
          have Ka4 := Lib.hid (Ka3.out.below hy)
          have G94 := Lib.hid (G93.out.below hy)
          have G84 := Lib.hid (G83.out.below hy)
          clear hy hn3 Ka3 G93 G83
          go_wp2_with fail
          refine hK.out _ _ (KS.out _ hn4) (fun hHeld => ?_)
          clear hK K
          try simp only [Act.put, List.setIfInBounds_toArray, List.set_cons_zero, List.set_cons_succ]
          refine wpAnyH_ready (rs := [8]) (by kernel_rfl) (by simp) ?_
          refine AllReadyH.cons (o := _) rfl (fun K hK => ?_) AllReadyH.nil
          rw [if_pos (by rfl)]
          have q8 : BlkV y4 g8 26 [.int .i64 0, .int .i64 0, .int .u32 0, .int .u32 0, .int .i64 0, .int .i64 0, .int .i64 0, .slice none 0 0, .slice none 0 0] := G84.out
          refine wp_stB 26 _ _ rfl (by rfl) (by rfl) _ (by rfl) q8 (by rfl) (tcp_size (by rfl)) (by rfl) ?_
          intro z8 Z8 O8
          have q9 : BlkV z8 g9 26 [.int .i64 0, .int .i64 0, .int .u32 0, .int .u32 0, .int .i64 0, .int .i64 0, .int .i64 0, .slice none 0 0, .slice none 0 0] := BlkV.only (show BlkV y4 g9 26 [.int .i64 0, .int .i64 0, .int .u32 0, .int .u32 0, .int .i64 0, .int .i64 0, .int .i64 0, .slice none 0 0, .slice none 0 0] from G94.out) O8 (fun h => NE.out h.symm)
          have ka8 := Ka4.out.store q8 O8 (by decide) (by decide)
          have kb8 := Kb4.out.store q8 O8 (by decide) (by decide)
          have hz8 := O8.bel L8.out hn4
          clear q8 O8
          refine hK.out _ _ (KS.out _ hz8) (fun hHeld => ?_)
          clear hK K
          try simp only [Act.put, List.setIfInBounds_toArray, List.set_cons_zero, List.set_cons_succ]
          refine wpAnyH_ready (rs := [9]) (by kernel_rfl) (by simp) ?_
          refine AllReadyH.cons (o := _) rfl (fun K hK => ?_) AllReadyH.nil
          rw [if_pos (by rfl)]
          have q9' : BlkV z8 g9 26 [.int .i64 0, .int .i64 0, .int .u32 0, .int .u32 0, .int .i64 0, .int .i64 0, .int .i64 0, .slice none 0 0, .slice none 0 0] := q9
          refine wp_stB 26 _ _ rfl (by rfl) (by rfl) _ (by rfl) q9' (by rfl) (tcp_size (by rfl)) (by rfl) ?_
          intro z9 Z9 O9
          have Z8' := BlkV.only (show BlkV z8 g8 26 _ from Z8) O9 NE.out
          have ka9 := Lib.hid (ka8.store q9' O9 (by decide) (by decide))
          have kb9 := Lib.hid (kb8.store q9' O9 (by decide) (by decide))
          have hz9 := O9.bel L9.out hz8
          have Z8h := Lib.hid Z8'
          have Z9h := Lib.hid Z9
          clear q9 q9' O9 Z8 Z8' Z9 ka8 kb8 hz8
          refine hK.out _ _ (KS.out _ hz9) (fun hHeld => ?_)
          clear hK K
          try simp only [Act.put, List.setIfInBounds_toArray, List.set_cons_zero, List.set_cons_succ]
          refine wpAnyH_done (by kernel_rfl) ?_ _
          go_wp2_with fail
          go_meet
          exact ⟨g8, g9, a, b, rfl, rfl, hz9, Z8h.out, Z9h.out, ka9.out, kb9.out, Ca.out, Cb.out⟩
    ·
      go_simp
      first | refine k_gen (fun y1 hx => ?_) | refine k_gend (fun y1 hx => ?_)
      have hy : Below V.heap.size V y1 := by rw [hx]; first | exact bel_a (Below.refl _ _) _ | exact bel_a (bel_d (Below.refl _ _)) _ | exact bel_d (bel_a (Below.refl _ _) _)
      obtain ⟨g8, hg⟩ : ∃ g, g = V.heap.size := ⟨_, rfl⟩
      have G81 : Hid (BlkV y1 g8 26 [.int .i64 0, .int .i64 0, .int .u32 0, .int .u32 0, .int .i64 0, .int .i64 0, .int .i64 0, .slice none 0 0, .slice none 0 0]) := Lib.hid (by rw [hx, hg]; first | exact BlkV.new_at _ _ _ rfl | exact BlkV.drewN (BlkV.new_at _ _ _ rfl) 1)
      have L8 := Lib.hid (show V.heap.size ≤ g8 by rw [hg]; exact hn0.size)
      rw [← hg]
      clear hx hg
      have hn1 := bel_then hn0 hy
      clear hy hn0 
      refine hK.out _ _ (KS.out _ hn1) (fun hHeld => ?_)
      clear hK K
      try simp only [Act.put, List.setIfInBounds_toArray, List.set_cons_zero, List.set_cons_succ]
      refine wpAnyH_ready (rs := [2, 7]) (by kernel_rfl) (by simp) ?_
      refine AllReadyH.cons (o := _) rfl (fun K hK => ?_) (AllReadyH.cons (o := _) rfl (fun K hK => ?_) AllReadyH.nil)
      ·
        go_simp
        refine (H6.out _ (by first | exact hn1 | exact bel_d hn1 | exact bel_d (bel_d hn1))).mono ?_
        rintro e y2 ⟨hx, a, rfl, kx, cx⟩
        have hy : Below y1.heap.size y1 y2 := (by first | exact hx | exact bel_then (bel_d (Below.refl y1.heap.size y1)) hx | exact bel_then (bel_d (bel_d (Below.refl y1.heap.size y1))) hx)
        have Ka2 := Lib.hid (kx.weak (show V.heap.size ≤ _ from hn1.size))
        have Ca := Lib.hid cx
        clear hx kx cx
        have hn2 := bel_then hn1 hy
        have G82 := Lib.hid (G81.out.below hy)
        clear hy hn1 G81
        go_wp2_with fail
        refine hK.out _ _ (KS.out _ hn2) (fun hHeld => ?_)
        clear hK K
        try simp only [Act.put, List.setIfInBounds_toArray, List.set_cons_zero, List.set_cons_succ]
        refine wpAnyH_ready (rs := [5, 7]) (by kernel_rfl) (by simp) ?_
        refine AllReadyH.cons (o := _) rfl (fun K hK => ?_) (AllReadyH.cons (o := _) rfl (fun K hK => ?_) AllReadyH.nil)
        ·
          go_simp
          refine (H7.out _ (by first | exact hn2 | exact bel_d hn2 | exact bel_d (bel_d hn2))).mono ?_
          rintro e y3 ⟨hx, b, rfl, kx, cx⟩
          have hy : Below y2.heap.size y2 y3 := (by first | exact hx | exact bel_then (bel_d (Below.refl y2.heap.size y2)) hx | exact bel_then (bel_d (bel_d (Below.refl y2.heap.size y2))) hx)
          have Kb3 := Lib.hid (kx.weak (show V.heap.size ≤ _ from hn2.size))
          have Cb := Lib.hid cx
          clear hx kx cx
          have hn3 := bel_then hn2 hy
          have G83 := Lib.hid (G82.out.below hy)
          have Ka3 := Lib.hid (Ka2.out.below hy)
          clear hy hn2 G82 Ka2
          go_wp2_with fail
          refine hK.out _ _ (KS.out _ hn3) (fun hHeld => ?_)
          clear hK K
          try simp only [Act.put, List.setIfInBounds_toArray, List.set_cons_zero, List.set_cons_succ]
          refine wpAnyH_ready (rs := [7]) (by kernel_rfl) (by simp) ?_
          refine AllReadyH.cons (o := _) rfl (fun K hK => ?_) AllReadyH.nil
          go_simp
          first | refine k_gen (fun y4 hx => ?_) | refine k_gend (fun y4 hx => ?_)
          have hy : Below y3.heap.size y3 y4 := by rw [hx]; first | exact bel_a (Below.refl _ _) _ | exact bel_a (bel_d (Below.refl _ _)) _ | exact bel_d (bel_a (Below.refl _ _) _)
          obtain ⟨g9, hg⟩ : ∃ g, g = y3.heap.size := ⟨_, rfl⟩
          have G94 : Hid (BlkV y4 g9 26 [.int .i64 0, .int .i64 0, .int .u32 0, .int .u32 0, .int .i64 0, .int .i64 0, .int .i64 0, .slice none 0 0, .slice none 0 0]) := Lib.hid (by rw [hx, hg]; first | exact BlkV.new_at _ _ _ rfl | exact BlkV.drewN (BlkV.new_at _ _ _ rfl) 1)
          have L9 := Lib.hid (show V.heap.size ≤ g9 by rw [hg]; exact hn3.size)
          have NE := Lib.hid (show g8 ≠ g9 by have := G83.out.lt; omega)
          rw [← hg]
          clear hx hg
          have hn4 := bel_then hn3 hy
          have G84 := Lib.hid (G83.out.below hy)
          have Ka4 := Lib.hid (Ka3.out.below hy)
          have Kb4 := Lib.hid (Kb3.out.below hy)
          clear hy hn3 G83 Ka3 Kb3
          refine hK.out _ _ (KS.out _ hn4) (fun hHeld => ?_)
          clear hK K
          try simp only [Act.put, List.setIfInBounds_toArray, List.set_cons_zero, List.set_cons_succ]
          refine wpAnyH_ready (rs := [8]) (by kernel_rfl) (by simp) ?_
          refine AllReadyH.cons (o := _) rfl (fun K hK => ?_) AllReadyH.nil
          rw [if_pos (by rfl)]
          have q8 : BlkV y4 g8 26 [.int .i64 0, .int .i64 0, .int .u32 0, .int .u32 0, .int .i64 0, .int .i64 0, .int .i64 0, .slice none 0 0, .slice none 0 0] := G84.out
          refine wp_stB 26 _ _ rfl (by rfl) (by rfl) _ (by rfl) q8 (by rfl) (tcp_size (by rfl)) (by rfl) ?_
          intro z8 Z8 O8
          have q9 : BlkV z8 g9 26 [.int .i64 0, .int .i64 0, .int .u32 0, .int .u32 0, .int .i64 0, .int .i64 0, .int .i64 0, .slice none 0 0, .slice none 0 0] := BlkV.only (show BlkV y4 g9 26 [.int .i64 0, .int .i64 0, .int .u32 0, .int .u32 0, .int .i64 0, .int .i64 0, .int .i64 0, .slice none 0 0, .slice none 0 0] from G94.out) O8 (fun h => NE.out h.symm)
          have ka8 := Ka4.out.store q8 O8 (by decide) (by decide)
          have kb8 := Kb4.out.store q8 O8 (by decide) (by decide)
          have hz8 := O8.bel L8.out hn4
          clear q8 O8
          refine hK.out _ _ (KS.out _ hz8) (fun hHeld => ?_)
          clear hK K
          try simp only [Act.put, List.setIfInBounds_toArray, List.set_cons_zero, List.set_cons_succ]
          refine wpAnyH_ready (rs := [9]) (by kernel_rfl) (by simp) ?_
          refine AllReadyH.cons (o := _) rfl (fun K hK => ?_) AllReadyH.nil
          rw [if_pos (by rfl)]
          have q9' : BlkV z8 g9 26 [.int .i64 0, .int .i64 0, .int .u32 0, .int .u32 0, .int .i64 0, .int .i64 0, .int .i64 0, .slice none 0 0, .slice none 0 0] := q9
          refine wp_stB 26 _ _ rfl (by rfl) (by rfl) _ (by rfl) q9' (by rfl) (tcp_size (by rfl)) (by rfl) ?_
          intro z9 Z9 O9
          have Z8' := BlkV.only (show BlkV z8 g8 26 _ from Z8) O9 NE.out
          have ka9 := Lib.hid (ka8.store q9' O9 (by decide) (by decide))
          have kb9 := Lib.hid (kb8.store q9' O9 (by decide) (by decide))
          have hz9 := O9.bel L9.out hz8
          have Z8h := Lib.hid Z8'
          have Z9h := Lib.hid Z9
          clear q9 q9' O9 Z8 Z8' Z9 ka8 kb8 hz8
          refine hK.out _ _ (KS.out _ hz9) (fun hHeld => ?_)
          clear hK K
          try simp only [Act.put, List.setIfInBounds_toArray, List.set_cons_zero, List.set_cons_succ]
          refine wpAnyH_done (by kernel_rfl) ?_ _
          go_wp2_with fail
          go_meet
          exact ⟨g8, g9, a, b, rfl, rfl, hz9, Z8h.out, Z9h.out, ka9.out, kb9.out, Ca.out, Cb.out⟩
        ·
          go_simp
          first | refine k_gen (fun y3 hx => ?_) | refine k_gend (fun y3 hx => ?_)
          have hy : Below y2.heap.size y2 y3 := by rw [hx]; first | exact bel_a (Below.refl _ _) _ | exact bel_a (bel_d (Below.refl _ _)) _ | exact bel_d (bel_a (Below.refl _ _) _)
          obtain ⟨g9, hg⟩ : ∃ g, g = y2.heap.size := ⟨_, rfl⟩
          have G93 : Hid (BlkV y3 g9 26 [.int .i64 0, .int .i64 0, .int .u32 0, .int .u32 0, .int .i64 0, .int .i64 0, .int .i64 0, .slice none 0 0, .slice none 0 0]) := Lib.hid (by rw [hx, hg]; first | exact BlkV.new_at _ _ _ rfl | exact BlkV.drewN (BlkV.new_at _ _ _ rfl) 1)
          have L9 := Lib.hid (show V.heap.size ≤ g9 by rw [hg]; exact hn2.size)
          have NE := Lib.hid (show g8 ≠ g9 by have := G82.out.lt; omega)
          rw [← hg]
          clear hx hg
          have hn3 := bel_then hn2 hy
          have G83 := Lib.hid (G82.out.below hy)
          have Ka3 := Lib.hid (Ka2.out.below hy)
          clear hy hn2 G82 Ka2
          refine hK.out _ _ (KS.out _ hn3) (fun hHeld => ?_)
          clear hK K
          try simp only [Act.put, List.setIfInBounds_toArray, List.set_cons_zero, List.set_cons_succ]
          refine wpAnyH_ready (rs := [5]) (by kernel_rfl) (by simp) ?_
          refine AllReadyH.cons (o := _) rfl (fun K hK => ?_) AllReadyH.nil
          go_simp
          refine (H7.out _ (by first | exact hn3 | exact bel_d hn3 | exact bel_d (bel_d hn3))).mono ?_
          rintro e y4 ⟨hx, b, rfl, kx, cx⟩
          have hy : Below y3.heap.size y3 y4 := (by first | exact hx | exact bel_then (bel_d (Below.refl y3.heap.size y3)) hx | exact bel_then (bel_d (bel_d (Below.refl y3.heap.size y3))) hx)
          have Kb4 := Lib.hid (kx.weak (show V.heap.size ≤ _ from hn3.size))
          have Cb := Lib.hid cx
          clear hx kx cx
          have hn4 := bel_then hn3 hy
          have G84 := Lib.hid (G83.out.below hy)
          have Ka4 := Lib.hid (Ka3.out.below hy)
          have G94 := Lib.hid (G93.out.below hy)
          clear hy hn3 G83 Ka3 G93
          go_wp2_with fail
          refine hK.out _ _ (KS.out _ hn4) (fun hHeld => ?_)
          clear hK K
          try simp only [Act.put, List.setIfInBounds_toArray, List.set_cons_zero, List.set_cons_succ]
          refine wpAnyH_ready (rs := [8]) (by kernel_rfl) (by simp) ?_
          refine AllReadyH.cons (o := _) rfl (fun K hK => ?_) AllReadyH.nil
          rw [if_pos (by rfl)]
          have q8 : BlkV y4 g8 26 [.int .i64 0, .int .i64 0, .int .u32 0, .int .u32 0, .int .i64 0, .int .i64 0, .int .i64 0, .slice none 0 0, .slice none 0 0] := G84.out
          refine wp_stB 26 _ _ rfl (by rfl) (by rfl) _ (by rfl) q8 (by rfl) (tcp_size (by rfl)) (by rfl) ?_
          intro z8 Z8 O8
          have q9 : BlkV z8 g9 26 [.int .i64 0, .int .i64 0, .int .u32 0, .int .u32 0, .int .i64 0, .int .i64 0, .int .i64 0, .slice none 0 0, .slice none 0 0] := BlkV.only (show BlkV y4 g9 26 [.int .i64 0, .int .i64 0, .int .u32 0, .int .u32 0, .int .i64 0, .int .i64 0, .int .i64 0, .slice none 0 0, .slice none 0 0] from G94.out) O8 (fun h => NE.out h.symm)
          have ka8 := Ka4.out.store q8 O8 (by decide) (by decide)
          have kb8 := Kb4.out.store q8 O8 (by decide) (by decide)
          have hz8 := O8.bel L8.out hn4
          clear q8 O8
          refine hK.out _ _ (KS.out _ hz8) (fun hHeld => ?_)
          clear hK K
          try simp only [Act.put, List.setIfInBounds_toArray, List.set_cons_zero, List.set_cons_succ]
          refine wpAnyH_ready (rs := [9]) (by kernel_rfl) (by simp) ?_
          refine AllReadyH.cons (o := _) rfl (fun K hK => ?_) AllReadyH.nil
          rw [if_pos (by rfl)]
          have q9' : BlkV z8 g9 26 [.int .i64 0, .int .i64 0, .int .u32 0, .int .u32 0, .int .i64 0, .int .i64 0, .int .i64 0, .slice none 0 0, .slice none 0 0] := q9
          refine wp_stB 26 _ _ rfl (by rfl) (by rfl) _ (by rfl) q9' (by rfl) (tcp_size (by rfl)) (by rfl) ?_
          intro z9 Z9 O9
          have Z8' := BlkV.only (show BlkV z8 g8 26 _ from Z8) O9 NE.out
          have ka9 := Lib.hid (ka8.store q9' O9 (by decide) (by decide))
          have kb9 := Lib.hid (kb8.store q9' O9 (by decide) (by decide))
          have hz9 := O9.bel L9.out hz8
          have Z8h := Lib.hid Z8'
          have Z9h := Lib.hid Z9
          clear q9 q9' O9 Z8 Z8' Z9 ka8 kb8 hz8
          refine hK.out _ _ (KS.out _ hz9) (fun hHeld => ?_)
          clear hK K
          try simp only [Act.put, List.setIfInBounds_toArray, List.set_cons_zero, List.set_cons_succ]
          refine wpAnyH_done (by kernel_rfl) ?_ _
          go_wp2_with fail
          go_meet
          exact ⟨g8, g9, a, b, rfl, rfl, hz9, Z8h.out, Z9h.out, ka9.out, kb9.out, Ca.out, Cb.out⟩
      ·
        go_simp
        first | refine k_gen (fun y2 hx => ?_) | refine k_gend (fun y2 hx => ?_)
        have hy : Below y1.heap.size y1 y2 := by rw [hx]; first | exact bel_a (Below.refl _ _) _ | exact bel_a (bel_d (Below.refl _ _)) _ | exact bel_d (bel_a (Below.refl _ _) _)
        obtain ⟨g9, hg⟩ : ∃ g, g = y1.heap.size := ⟨_, rfl⟩
        have G92 : Hid (BlkV y2 g9 26 [.int .i64 0, .int .i64 0, .int .u32 0, .int .u32 0, .int .i64 0, .int .i64 0, .int .i64 0, .slice none 0 0, .slice none 0 0]) := Lib.hid (by rw [hx, hg]; first | exact BlkV.new_at _ _ _ rfl | exact BlkV.drewN (BlkV.new_at _ _ _ rfl) 1)
        have L9 := Lib.hid (show V.heap.size ≤ g9 by rw [hg]; exact hn1.size)
        have NE := Lib.hid (show g8 ≠ g9 by have := G81.out.lt; omega)
        rw [← hg]
        clear hx hg
        have hn2 := bel_then hn1 hy
        have G82 := Lib.hid (G81.out.below hy)
        clear hy hn1 G81
        refine hK.out _ _ (KS.out _ hn2) (fun hHeld => ?_)
        clear hK K
        try simp only [Act.put, List.setIfInBounds_toArray, List.set_cons_zero, List.set_cons_succ]
        refine wpAnyH_ready (rs := [2]) (by kernel_rfl) (by simp) ?_
        refine AllReadyH.cons (o := _) rfl (fun K hK => ?_) AllReadyH.nil
        go_simp
        refine (H6.out _ (by first | exact hn2 | exact bel_d hn2 | exact bel_d (bel_d hn2))).mono ?_
        rintro e y3 ⟨hx, a, rfl, kx, cx⟩
        have hy : Below y2.heap.size y2 y3 := (by first | exact hx | exact bel_then (bel_d (Below.refl y2.heap.size y2)) hx | exact bel_then (bel_d (bel_d (Below.refl y2.heap.size y2))) hx)
        have Ka3 := Lib.hid (kx.weak (show V.heap.size ≤ _ from hn2.size))
        have Ca := Lib.hid cx
        clear hx kx cx
        have hn3 := bel_then hn2 hy
        have G83 := Lib.hid (G82.out.below hy)
        have G93 := Lib.hid (G92.out.below hy)
        clear hy hn2 G82 G92
        go_wp2_with fail
        refine hK.out _ _ (KS.out _ hn3) (fun hHeld => ?_)
        clear hK K
        try simp only [Act.put, List.setIfInBounds_toArray, List.set_cons_zero, List.set_cons_succ]
        refine wpAnyH_ready (rs := [5]) (by kernel_rfl) (by simp) ?_
        refine AllReadyH.cons (o := _) rfl (fun K hK => ?_) AllReadyH.nil
        go_simp
        refine (H7.out _ (by first | exact hn3 | exact bel_d hn3 | exact bel_d (bel_d hn3))).mono ?_
        rintro e y4 ⟨hx, b, rfl, kx, cx⟩
        have hy : Below y3.heap.size y3 y4 := (by first | exact hx | exact bel_then (bel_d (Below.refl y3.heap.size y3)) hx | exact bel_then (bel_d (bel_d (Below.refl y3.heap.size y3))) hx)
        have Kb4 := Lib.hid (kx.weak (show V.heap.size ≤ _ from hn3.size))
        have Cb := Lib.hid cx
        clear hx kx cx
        have hn4 := bel_then hn3 hy
        have G84 := Lib.hid (G83.out.below hy)
        have G94 := Lib.hid (G93.out.below hy)
        have Ka4 := Lib.hid (Ka3.out.below hy)
        clear hy hn3 G83 G93 Ka3
        go_wp2_with fail
        refine hK.out _ _ (KS.out _ hn4) (fun hHeld => ?_)
        clear hK K
        try simp only [Act.put, List.setIfInBounds_toArray, List.set_cons_zero, List.set_cons_succ]
        refine wpAnyH_ready (rs := [8]) (by kernel_rfl) (by simp) ?_
        refine AllReadyH.cons (o := _) rfl (fun K hK => ?_) AllReadyH.nil
        rw [if_pos (by rfl)]
        have q8 : BlkV y4 g8 26 [.int .i64 0, .int .i64 0, .int .u32 0, .int .u32 0, .int .i64 0, .int .i64 0, .int .i64 0, .slice none 0 0, .slice none 0 0] := G84.out
        refine wp_stB 26 _ _ rfl (by rfl) (by rfl) _ (by rfl) q8 (by rfl) (tcp_size (by rfl)) (by rfl) ?_
        intro z8 Z8 O8
        have q9 : BlkV z8 g9 26 [.int .i64 0, .int .i64 0, .int .u32 0, .int .u32 0, .int .i64 0, .int .i64 0, .int .i64 0, .slice none 0 0, .slice none 0 0] := BlkV.only (show BlkV y4 g9 26 [.int .i64 0, .int .i64 0, .int .u32 0, .int .u32 0, .int .i64 0, .int .i64 0, .int .i64 0, .slice none 0 0, .slice none 0 0] from G94.out) O8 (fun h => NE.out h.symm)
        have ka8 := Ka4.out.store q8 O8 (by decide) (by decide)
        have kb8 := Kb4.out.store q8 O8 (by decide) (by decide)
        have hz8 := O8.bel L8.out hn4
        clear q8 O8
        refine hK.out _ _ (KS.out _ hz8) (fun hHeld => ?_)
        clear hK K
        try simp only [Act.put, List.setIfInBounds_toArray, List.set_cons_zero, List.set_cons_succ]
        refine wpAnyH_ready (rs := [9]) (by kernel_rfl) (by simp) ?_
        refine AllReadyH.cons (o := _) rfl (fun K hK => ?_) AllReadyH.nil
        rw [if_pos (by rfl)]
        have q9' : BlkV z8 g9 26 [.int .i64 0, .int .i64 0, .int .u32 0, .int .u32 0, .int .i64 0, .int .i64 0, .int .i64 0, .slice none 0 0, .slice none 0 0] := q9
        refine wp_stB 26 _ _ rfl (by rfl) (by rfl) _ (by rfl) q9' (by rfl) (tcp_size (by rfl)) (by rfl) ?_
        intro z9 Z9 O9
        have Z8' := BlkV.only (show BlkV z8 g8 26 _ from Z8) O9 NE.out
        have ka9 := Lib.hid (ka8.store q9' O9 (by decide) (by decide))
        have kb9 := Lib.hid (kb8.store q9' O9 (by decide) (by decide))
        have hz9 := O9.bel L9.out hz8
        have Z8h := Lib.hid Z8'
        have Z9h := Lib.hid Z9
        clear q9 q9' O9 Z8 Z8' Z9 ka8 kb8 hz8
        refine hK.out _ _ (KS.out _ hz9) (fun hHeld => ?_)
        clear hK K
        try simp only [Act.put, List.setIfInBounds_toArray, List.set_cons_zero, List.set_cons_succ]
        refine wpAnyH_done (by kernel_rfl) ?_ _
        go_wp2_with fail
        go_meet
        exact ⟨g8, g9, a, b, rfl, rfl, hz9, Z8h.out, Z9h.out, ka9.out, kb9.out, Ca.out, Cb.out⟩
    ·
      go_simp
      first | refine k_gen (fun y1 hx => ?_) | refine k_gend (fun y1 hx => ?_)
      have hy : Below V.heap.size V y1 := by rw [hx]; first | exact bel_a (Below.refl _ _) _ | exact bel_a (bel_d (Below.refl _ _)) _ | exact bel_d (bel_a (Below.refl _ _) _)
      obtain ⟨g9, hg⟩ : ∃ g, g = V.heap.size := ⟨_, rfl⟩
      have G91 : Hid (BlkV y1 g9 26 [.int .i64 0, .int .i64 0, .int .u32 0, .int .u32 0, .int .i64 0, .int .i64 0, .int .i64 0, .slice none 0 0, .slice none 0 0]) := Lib.hid (by rw [hx, hg]; first | exact BlkV.new_at _ _ _ rfl | exact BlkV.drewN (BlkV.new_at _ _ _ rfl) 1)
      have L9 := Lib.hid (show V.heap.size ≤ g9 by rw [hg]; exact hn0.size)
      rw [← hg]
      clear hx hg
      have hn1 := bel_then hn0 hy
      clear hy hn0 
      refine hK.out _ _ (KS.out _ hn1) (fun hHeld => ?_)
      clear hK K
      try simp only [Act.put, List.setIfInBounds_toArray, List.set_cons_zero, List.set_cons_succ]
      refine wpAnyH_ready (rs := [2, 6]) (by kernel_rfl) (by simp) ?_
      refine AllReadyH.cons (o := _) rfl (fun K hK => ?_) (AllReadyH.cons (o := _) rfl (fun K hK => ?_) AllReadyH.nil)
      ·
        go_simp
        refine (H6.out _ (by first | exact hn1 | exact bel_d hn1 | exact bel_d (bel_d hn1))).mono ?_
        rintro e y2 ⟨hx, a, rfl, kx, cx⟩
        have hy : Below y1.heap.size y1 y2 := (by first | exact hx | exact bel_then (bel_d (Below.refl y1.heap.size y1)) hx | exact bel_then (bel_d (bel_d (Below.refl y1.heap.size y1))) hx)
        have Ka2 := Lib.hid (kx.weak (show V.heap.size ≤ _ from hn1.size))
        have Ca := Lib.hid cx
        clear hx kx cx
        have hn2 := bel_then hn1 hy
        have G92 := Lib.hid (G91.out.below hy)
        clear hy hn1 G91
        go_wp2_with fail
        refine hK.out _ _ (KS.out _ hn2) (fun hHeld => ?_)
        clear hK K
        try simp only [Act.put, List.setIfInBounds_toArray, List.set_cons_zero, List.set_cons_succ]
        refine wpAnyH_ready (rs := [5, 6]) (by kernel_rfl) (by simp) ?_
        refine AllReadyH.cons (o := _) rfl (fun K hK => ?_) (AllReadyH.cons (o := _) rfl (fun K hK => ?_) AllReadyH.nil)
        ·
          go_simp
          refine (H7.out _ (by first | exact hn2 | exact bel_d hn2 | exact bel_d (bel_d hn2))).mono ?_
          rintro e y3 ⟨hx, b, rfl, kx, cx⟩
          have hy : Below y2.heap.size y2 y3 := (by first | exact hx | exact bel_then (bel_d (Below.refl y2.heap.size y2)) hx | exact bel_then (bel_d (bel_d (Below.refl y2.heap.size y2))) hx)
          have Kb3 := Lib.hid (kx.weak (show V.heap.size ≤ _ from hn2.size))
          have Cb := Lib.hid cx
          clear hx kx cx
          have hn3 := bel_then hn2 hy
          have G93 := Lib.hid (G92.out.below hy)
          have Ka3 := Lib.hid (Ka2.out.below hy)
          clear hy hn2 G92 Ka2
          go_wp2_with fail
          refine hK.out _ _ (KS.out _ hn3) (fun hHeld => ?_)
          clear hK K
          try simp only [Act.put, List.setIfInBounds_toArray, List.set_cons_zero, List.set_cons_succ]
          refine wpAnyH_ready (rs := [6]) (by kernel_rfl) (by simp) ?_
          refine AllReadyH.cons (o := _) rfl (fun K hK => ?_) AllReadyH.nil
          go_simp
          first | refine k_gen (fun y4 hx => ?_) | refine k_gend (fun y4 hx => ?_)
          have hy : Below y3.heap.size y3 y4 := by rw [hx]; first | exact bel_a (Below.refl _ _) _ | exact bel_a (bel_d (Below.refl _ _)) _ | exact bel_d (bel_a (Below.refl _ _) _)
          obtain ⟨g8, hg⟩ : ∃ g, g = y3.heap.size := ⟨_, rfl⟩
          have G84 : Hid (BlkV y4 g8 26 [.int .i64 0, .int .i64 0, .int .u32 0, .int .u32 0, .int .i64 0, .int .i64 0, .int .i64 0, .slice none 0 0, .slice none 0 0]) := Lib.hid (by rw [hx, hg]; first | exact BlkV.new_at _ _ _ rfl | exact BlkV.drewN (BlkV.new_at _ _ _ rfl) 1)
          have L8 := Lib.hid (show V.heap.size ≤ g8 by rw [hg]; exact hn3.size)
          have NE := Lib.hid (show g8 ≠ g9 by have := G93.out.lt; omega)
          rw [← hg]
          clear hx hg
          have hn4 := bel_then hn3 hy
          have G94 := Lib.hid (G93.out.below hy)
          have Ka4 := Lib.hid (Ka3.out.below hy)
          have Kb4 := Lib.hid (Kb3.out.below hy)
          clear hy hn3 G93 Ka3 Kb3
          refine hK.out _ _ (KS.out _ hn4) (fun hHeld => ?_)
          clear hK K
          try simp only [Act.put, List.setIfInBounds_toArray, List.set_cons_zero, List.set_cons_succ]
          refine wpAnyH_ready (rs := [8]) (by kernel_rfl) (by simp) ?_
          refine AllReadyH.cons (o := _) rfl (fun K hK => ?_) AllReadyH.nil
          rw [if_pos (by rfl)]
          have q8 : BlkV y4 g8 26 [.int .i64 0, .int .i64 0, .int .u32 0, .int .u32 0, .int .i64 0, .int .i64 0, .int .i64 0, .slice none 0 0, .slice none 0 0] := G84.out
          refine wp_stB 26 _ _ rfl (by rfl) (by rfl) _ (by rfl) q8 (by rfl) (tcp_size (by rfl)) (by rfl) ?_
          intro z8 Z8 O8
          have q9 : BlkV z8 g9 26 [.int .i64 0, .int .i64 0, .int .u32 0, .int .u32 0, .int .i64 0, .int .i64 0, .int .i64 0, .slice none 0 0, .slice none 0 0] := BlkV.only (show BlkV y4 g9 26 [.int .i64 0, .int .i64 0, .int .u32 0, .int .u32 0, .int .i64 0, .int .i64 0, .int .i64 0, .slice none 0 0, .slice none 0 0] from G94.out) O8 (fun h => NE.out h.symm)
          have ka8 := Ka4.out.store q8 O8 (by decide) (by decide)
          have kb8 := Kb4.out.store q8 O8 (by decide) (by decide)
          have hz8 := O8.bel L8.out hn4
          clear q8 O8
          refine hK.out _ _ (KS.out _ hz8) (fun hHeld => ?_)
          clear hK K
          try simp only [Act.put, List.setIfInBounds_toArray, List.set_cons_zero, List.set_cons_succ]
          refine wpAnyH_ready (rs := [9]) (by kernel_rfl) (by simp) ?_
          refine AllReadyH.cons (o := _) rfl (fun K hK => ?_) AllReadyH.nil
          rw [if_pos (by rfl)]
          have q9' : BlkV z8 g9 26 [.int .i64 0, .int .i64 0, .int .u32 0, .int .u32 0, .int .i64 0, .int .i64 0, .int .i64 0, .slice none 0 0, .slice none 0 0] := q9
          refine wp_stB 26 _ _ rfl (by rfl) (by rfl) _ (by rfl) q9' (by rfl) (tcp_size (by rfl)) (by rfl) ?_
          intro z9 Z9 O9
          have Z8' := BlkV.only (show BlkV z8 g8 26 _ from Z8) O9 NE.out
          have ka9 := Lib.hid (ka8.store q9' O9 (by decide) (by decide))
          have kb9 := Lib.hid (kb8.store q9' O9 (by decide) (by decide))
          have hz9 := O9.bel L9.out hz8
          have Z8h := Lib.hid Z8'
          have Z9h := Lib.hid Z9
          clear q9 q9' O9 Z8 Z8' Z9 ka8 kb8 hz8
          refine hK.out _ _ (KS.out _ hz9) (fun hHeld => ?_)
          clear hK K
          try simp only [Act.put, List.setIfInBounds_toArray, List.set_cons_zero, List.set_cons_succ]
          refine wpAnyH_done (by kernel_rfl) ?_ _
          go_wp2_with fail
          go_meet
          exact ⟨g8, g9, a, b, rfl, rfl, hz9, Z8h.out, Z9h.out, ka9.out, kb9.out, Ca.out, Cb.out⟩
        ·
          go_simp
          first | refine k_gen (fun y3 hx => ?_) | refine k_gend (fun y3 hx => ?_)
          have hy : Below y2.heap.size y2 y3 := by rw [hx]; first | exact bel_a (Below.refl _ _) _ | exact bel_a (bel_d (Below.refl _ _)) _ | exact bel_d (bel_a (Below.refl _ _) _)
          obtain ⟨g8, hg⟩ : ∃ g, g = y2.heap.size := ⟨_, rfl⟩
          have G83 : Hid (BlkV y3 g8 26 [.int .i64 0, .int .i64 0, .int .u32 0, .int .u32 0, .int .i64 0, .int .i64 0, .int .i64 0, .slice none 0 0, .slice none 0 0]) := Lib.hid (by rw [hx, hg]; first | exact BlkV.new_at _ _ _ rfl | exact BlkV.drewN (BlkV.new_at _ _ _ rfl) 1)
          have L8 := Lib.hid (show V.heap.size ≤ g8 by rw [hg]; exact hn2.size)
          have NE := Lib.hid (show g8 ≠ g9 by have := G92.out.lt; omega)
          rw [← hg]
          clear hx hg
          have hn3 := bel_then hn2 hy
          have G93 := Lib.hid (G92.out.below hy)
          have Ka3 := Lib.hid (Ka2.out.below hy)
          clear hy hn2 G92 Ka2
          refine hK.out _ _ (KS.out _ hn3) (fun hHeld => ?_)
          clear hK K
          try simp only [Act.put, List.setIfInBounds_toArray, List.set_cons_zero, List.set_cons_succ]
          refine wpAnyH_ready (rs := [5]) (by kernel_rfl) (by simp) ?_
          refine AllReadyH.cons (o := _) rfl (fun K hK => ?_) AllReadyH.nil
          go_simp
          refine (H7.out _ (by first | exact hn3 | exact bel_d hn3 | exact bel_d (bel_d hn3))).mono ?_
          rintro e y4 ⟨hx, b, rfl, kx, cx⟩
          have hy : Below y3.heap.size y3 y4 := (by first | exact hx | exact bel_then (bel_d (Below.refl y3.heap.size y3)) hx | exact bel_then (bel_d (bel_d (Below.refl y3.heap.size y3))) hx)
          have Kb4 := Lib.hid (kx.weak (show V.heap.size ≤ _ from hn3.size))
          have Cb := Lib.hid cx
          clear hx kx cx
          have hn4 := bel_then hn3 hy
          have G94 := Lib.hid (G93.out.below hy)
          have Ka4 := Lib.hid (Ka3.out.below hy)
          have G84 := Lib.hid (G83.out.below hy)
          clear hy hn3 G93 Ka3 G83
          go_wp2_with fail
          refine hK.out _ _ (KS.out _ hn4) (fun hHeld => ?_)
          clear hK K
          try simp only [Act.put, List.setIfInBounds_toArray, List.set_cons_zero, List.set_cons_succ]
          refine wpAnyH_ready (rs := [8]) (by kernel_rfl) (by simp) ?_
          refine AllReadyH.cons (o := _) rfl (fun K hK => ?_) AllReadyH.nil
          rw [if_pos (by rfl)]
          have q8 : BlkV y4 g8 26 [.int .i64 0, .int .i64 0, .int .u32 0, .int .u32 0, .int .i64 0, .int .i64 0, .int .i64 0, .slice none 0 0, .slice none 0 0] := G84.out
          refine wp_stB 26 _ _ rfl (by rfl) (by rfl) _ (by rfl) q8 (by rfl) (tcp_size (by rfl)) (by rfl) ?_
          intro z8 Z8 O8
          have q9 : BlkV z8 g9 26 [.int .i64 0, .int .i64 0, .int .u32 0, .int .u32 0, .int .i64 0, .int .i64 0, .int .i64 0, .slice none 0 0, .slice none 0 0] := BlkV.only (show BlkV y4 g9 26 [.int .i64 0, .int .i64 0, .int .u32 0, .int .u32 0, .int .i64 0, .int .i64 0, .int .i64 0, .slice none 0 0, .slice none 0 0] from G94.out) O8 (fun h => NE.out h.symm)
          have ka8 := Ka4.out.store q8 O8 (by decide) (by decide)
          have kb8 := Kb4.out.store q8 O8 (by decide) (by decide)
          have hz8 := O8.bel L8.out hn4
          clear q8 O8
          refine hK.out _ _ (KS.out _ hz8) (fun hHeld => ?_)
          clear hK K
          try simp only [Act.put, List.setIfInBounds_toArray, List.set_cons_zero, List.set_cons_succ]
          refine wpAnyH_ready (rs := [9]) (by kernel_rfl) (by simp) ?_
          refine AllReadyH.cons (o := _) rfl (fun K hK => ?_) AllReadyH.nil
          rw [if_pos (by rfl)]
          have q9' : BlkV z8 g9 26 [.int .i64 0, .int .i64 0, .int .u32 0, .int .u32 0, .int .i64 0, .int .i64 0, .int .i64 0, .slice none 0 0, .slice none 0 0] := q9
          refine wp_stB 26 _ _ rfl (by rfl) (by rfl) _ (by rfl) q9' (by rfl) (tcp_size (by rfl)) (by rfl) ?_
          intro z9 Z9 O9
          have Z8' := BlkV.only (show BlkV z8 g8 26 _ from Z8) O9 NE.out
          have ka9 := Lib.hid (ka8.store q9' O9 (by decide) (by decide))
          have kb9 := Lib.hid (kb8.store q9' O9 (by decide) (by decide))
          have hz9 := O9.bel L9.out hz8
          have Z8h := Lib.hid Z8'
          have Z9h := Lib.hid Z9
          clear q9 q9' O9 Z8 Z8' Z9 ka8 kb8 hz8
          refine hK.out _ _ (KS.out _ hz9) (fun hHeld => ?_)
          clear hK K
          try simp only [Act.put, List.setIfInBounds_toArray, List.set_cons_zero, List.set_cons_succ]
          refine wpAnyH_done (by kernel_rfl) ?_ _
          go_wp2_with fail
          go_meet
          exact ⟨g8, g9, a, b, rfl, rfl, hz9, Z8h.out, Z9h.out, ka9.out, kb9.out, Ca.out, Cb.out⟩
      ·
        go_simp
        first | refine k_gen (fun y2 hx => ?_) | refine k_gend (fun y2 hx => ?_)
        have hy : Below y1.heap.size y1 y2 := by rw [hx]; first | exact bel_a (Below.refl _ _) _ | exact bel_a (bel_d (Below.refl _ _)) _ | exact bel_d (bel_a (Below.refl _ _) _)
        obtain ⟨g8, hg⟩ : ∃ g, g = y1.heap.size := ⟨_, rfl⟩
        have G82 : Hid (BlkV y2 g8 26 [.int .i64 0, .int .i64 0, .int .u32 0, .int .u32 0, .int .i64 0, .int .i64 0, .int .i64 0, .slice none 0 0, .slice none 0 0]) := Lib.hid (by rw [hx, hg]; first | exact BlkV.new_at _ _ _ rfl | exact BlkV.drewN (BlkV.new_at _ _ _ rfl) 1)
        have L8 := Lib.hid (show V.heap.size ≤ g8 by rw [hg]; exact hn1.size)
        have NE := Lib.hid (show g8 ≠ g9 by have := G91.out.lt; omega)
        rw [← hg]
        clear hx hg
        have hn2 := bel_then hn1 hy
        have G92 := Lib.hid (G91.out.below hy)
        clear hy hn1 G91
        refine hK.out _ _ (KS.out _ hn2) (fun hHeld => ?_)
        clear hK K
        try simp only [Act.put, List.setIfInBounds_toArray, List.set_cons_zero, List.set_cons_succ]
        refine wpAnyH_ready (rs := [2]) (by kernel_rfl) (by simp) ?_
        refine AllReadyH.cons (o := _) rfl (fun K hK => ?_) AllReadyH.nil
        go_simp
        refine (H6.out _ (by first | exact hn2 | exact bel_d hn2 | exact bel_d (bel_d hn2))).mono ?_
        rintro e y3 ⟨hx, a, rfl, kx, cx⟩
        have hy : Below y2.heap.size y2 y3 := (by first | exact hx | exact bel_then (bel_d (Below.refl y2.heap.size y2)) hx | exact bel_then (bel_d (bel_d (Below.refl y2.heap.size y2))) hx)
        have Ka3 := Lib.hid (kx.weak (show V.heap.size ≤ _ from hn2.size))
        have Ca := Lib.hid cx
        clear hx kx cx
        have hn3 := bel_then hn2 hy
        have G93 := Lib.hid (G92.out.below hy)
        have G83 := Lib.hid (G82.out.below hy)
        clear hy hn2 G92 G82
        go_wp2_with fail
        refine hK.out _ _ (KS.out _ hn3) (fun hHeld => ?_)
        clear hK K
        try simp only [Act.put, List.setIfInBounds_toArray, List.set_cons_zero, List.set_cons_succ]
        refine wpAnyH_ready (rs := [5]) (by kernel_rfl) (by simp) ?_
        refine AllReadyH.cons (o := _) rfl (fun K hK => ?_) AllReadyH.nil
        go_simp
        refine (H7.out _ (by first | exact hn3 | exact bel_d hn3 | exact bel_d (bel_d hn3))).mono ?_
        rintro e y4 ⟨hx, b, rfl, kx, cx⟩
        have hy : Below y3.heap.size y3 y4 := (by first | exact hx | exact bel_then (bel_d (Below.refl y3.heap.size y3)) hx | exact bel_then (bel_d (bel_d (Below.refl y3.heap.size y3))) hx)
        have Kb4 := Lib.hid (kx.weak (show V.heap.size ≤ _ from hn3.size))
        have Cb := Lib.hid cx
        clear hx kx cx
        have hn4 := bel_then hn3 hy
        have G94 := Lib.hid (G93.out.below hy)
        have G84 := Lib.hid (G83.out.below hy)
        have Ka4 := Lib.hid (Ka3.out.below hy)
        clear hy hn3 G93 G83 Ka3
        go_wp2_with fail
        refine hK.out _ _ (KS.out _ hn4) (fun hHeld => ?_)
        clear hK K
        try simp only [Act.put, List.setIfInBounds_toArray, List.set_cons_zero, List.set_cons_succ]
        refine wpAnyH_ready (rs := [8]) (by kernel_rfl) (by simp) ?_
        refine AllReadyH.cons (o := _) rfl (fun K hK => ?_) AllReadyH.nil
        rw [if_pos (by rfl)]
        have q8 : BlkV y4 g8 26 [.int .i64 0, .int .i64 0, .int .u32 0, .int .u32 0, .int .i64 0, .int .i64 0, .int .i64 0, .slice none 0 0, .slice none 0 0] := G84.out
        refine wp_stB 26 _ _ rfl (by rfl) (by rfl) _ (by rfl) q8 (by rfl) (tcp_size (by rfl)) (by rfl) ?_
        intro z8 Z8 O8
        have q9 : BlkV z8 g9 26 [.int .i64 0, .int .i64 0, .int .u32 0, .int .u32 0, .int .i64 0, .int .i64 0, .int .i64 0, .slice none 0 0, .slice none 0 0] := BlkV.only (show BlkV y4 g9 26 [.int .i64 0, .int .i64 0, .int .u32 0, .int .u32 0, .int .i64 0, .int .i64 0, .int .i64 0, .slice none 0 0, .slice none 0 0] from G94.out) O8 (fun h => NE.out h.symm)
        have ka8 := Ka4.out.store q8 O8 (by decide) (by decide)
        have kb8 := Kb4.out.store q8 O8 (by decide) (by decide)
        have hz8 := O8.bel L8.out hn4
        clear q8 O8
        refine hK.out _ _ (KS.out _ hz8) (fun hHeld => ?_)
        clear hK K
        try simp only [Act.put, List.setIfInBounds_toArray, List.set_cons_zero, List.set_cons_succ]
        refine wpAnyH_ready (rs := [9]) (by kernel_rfl) (by simp) ?_
        refine AllReadyH.cons (o := _) rfl (fun K hK => ?_) AllReadyH.nil
        rw [if_pos (by rfl)]
        have q9' : BlkV z8 g9 26 [.int .i64 0, .int .i64 0, .int .u32 0, .int .u32 0, .int .i64 0, .int .i64 0, .int .i64 0, .slice none 0 0, .slice none 0 0] := q9
        refine wp_stB 26 _ _ rfl (by rfl) (by rfl) _ (by rfl) q9' (by rfl) (tcp_size (by rfl)) (by rfl) ?_
        intro z9 Z9 O9
        have Z8' := BlkV.only (show BlkV z8 g8 26 _ from Z8) O9 NE.out
        have ka9 := Lib.hid (ka8.store q9' O9 (by decide) (by decide))
        have kb9 := Lib.hid (kb8.store q9' O9 (by decide) (by decide))
        have hz9 := O9.bel L9.out hz8
        have Z8h := Lib.hid Z8'
        have Z9h := Lib.hid Z9
        clear q9 q9' O9 Z8 Z8' Z9 ka8 kb8 hz8
        refine hK.out _ _ (KS.out _ hz9) (fun hHeld => ?_)
        clear hK K
        try simp only [Act.put, List.setIfInBounds_toArray, List.set_cons_zero, List.set_cons_succ]
        refine wpAnyH_done (by kernel_rfl) ?_ _
        go_wp2_with fail
        go_meet
        exact ⟨g8, g9, a, b, rfl, rfl, hz9, Z8h.out, Z9h.out, ka9.out, kb9.out, Ca.out, Cb.out⟩
  case rest =>
  obtain ⟨g8, g9, a, b, rfl, rfl, hbc, Z8, Z9, ka, kb, ca, cb⟩ := hcut
  have hbv := bel_then hbV hbc
  have KS7 : Hid (∀ w' : World, Below wc.heap.size wc w' → (w'.cell? ⟨w.heap.size, 0, none⟩ = some (.int .i64 t.sp) ∧ w'.cell? ⟨w.heap.size, 1, none⟩ = some (.int .i64 t.dp) ∧ w'.cell? ⟨w.heap.size, 2, none⟩ = some (.int .u32 t.sq) ∧ w'.cell? ⟨w.heap.size, 3, none⟩ = some (.int .u32 t.ak) ∧ w'.cell? ⟨w.heap.size, 4, none⟩ = some (.int .i64 t.fl) ∧ w'.cell? ⟨w.heap.size, 5, none⟩ = some (.int .i64 t.wi) ∧ w'.cell? ⟨w.heap.size, 6, none⟩ = some (.int .i64 t.ur) ∧ w'.cell? ⟨w.heap.size, 7, none⟩ = some (.slice t.Ao t.no t.co) ∧ w'.cell? ⟨w.heap.size, 8, none⟩ = some (.slice t.Ab t.nb t.cb) ∧ w'.cell? ⟨w.heap.size + 1, 0, none⟩ = some (.int .i64 u.sp) ∧ w'.cell? ⟨w.heap.size + 1, 1, none⟩ = some (.int .i64 u.dp) ∧ w'.cell? ⟨w.heap.size + 1, 2, none⟩ = some (.int .u32 u.sq) ∧ w'.cell? ⟨w.heap.size + 1, 3, none⟩ = some (.int .u32 u.ak) ∧ w'.cell? ⟨w.heap.size + 1, 4, none⟩ = some (.int .i64 u.fl) ∧ w'.cell? ⟨w.heap.size + 1, 5, none⟩ = some (.int .i64 u.wi) ∧ w'.cell? ⟨w.heap.size + 1, 6, none⟩ = some (.int .i64 u.ur) ∧ w'.cell? ⟨w.heap.size + 1, 7, none⟩ = some (.slice u.Ao u.no u.co) ∧ w'.cell? ⟨w.heap.size + 1, 8, none⟩ = some (.slice u.Ab u.nb u.cb) ∧ w'.cell? ⟨p, 0, none⟩ = some (.int .u32 ((-s) % 4294967296)) ∧ w'.cell? ⟨p, 1, none⟩ = some (.int .u32 ((-st) % 4294967296)) ∧ w'.cell? ⟨g8, 0, none⟩ = some (.int .i64 a.sp) ∧ w'.cell? ⟨g8, 1, none⟩ = some (.int .i64 a.dp) ∧ w'.cell? ⟨g8, 2, none⟩ = some (.int .u32 a.sq) ∧ w'.cell? ⟨g8, 3, none⟩ = some (.int .u32 a.ak) ∧ w'.cell? ⟨g8, 4, none⟩ = some (.int .i64 a.fl) ∧ w'.cell? ⟨g8, 5, none⟩ = some (.int .i64 a.wi) ∧ w'.cell? ⟨g8, 6, none⟩ = some (.int .i64 a.ur) ∧ w'.cell? ⟨g8, 7, none⟩ = some (.slice a.Ao a.no a.co) ∧ w'.cell? ⟨g8, 8, none⟩ = some (.slice a.Ab a.nb a.cb) ∧ w'.cell? ⟨g9, 0, none⟩ = some (.int .i64 b.sp) ∧ w'.cell? ⟨g9, 1, none⟩ = some (.int .i64 b.dp) ∧ w'.cell? ⟨g9, 2, none⟩ = some (.int .u32 b.sq) ∧ w'.cell? ⟨g9, 3, none⟩ = some (.int .u32 b.ak) ∧ w'.cell? ⟨g9, 4, none⟩ = some (.int .i64 b.fl) ∧ w'.cell? ⟨g9, 5, none⟩ = some (.int .i64 b.wi) ∧ w'.cell? ⟨g9, 6, none⟩ = some (.int .i64 b.ur) ∧ w'.cell? ⟨g9, 7, none⟩ = some (.slice b.Ao b.no b.co) ∧ w'.cell? ⟨g9, 8, none⟩ = some (.slice b.Ab b.nb b.cb))) := Lib.hid (by
    intro w' hb
    obtain ⟨c0, c1, c2, c3, c4, c5, c6, c7, c8⟩ := cells9' ((HA0.out.below hbc).below hb)
    obtain ⟨d0, d1, d2, d3, d4, d5, d6, d7, d8⟩ := cells9' ((HA1.out.below hbc).below hb)
    obtain ⟨e0, e1, e2, e3, e4, e5, e6, e7, e8⟩ := cells9' (Z8.below hb)
    obtain ⟨f0, f1, f2, f3, f4, f5, f6, f7, f8⟩ := cells9' (Z9.below hb)
    have A3 := ((HA3.out.below hbc).below hb)
    exact ⟨c0, c1, c2, c3, c4, c5, c6, c7, c8, d0, d1, d2, d3, d4, d5, d6, d7, d8, A3.cell rfl, A3.cell rfl, e0, e1, e2, e3, e4, e5, e6, e7, e8, f0, f1, f2, f3, f4, f5, f6, f7, f8⟩)
  have HTc := Lib.hid (HT.out.below hbc)
  have HUc := Lib.hid (HU.out.below hbc)
  have HOa := Lib.hid ka.ok
  have HOb := Lib.hid kb.ok
  have HSa : Hid a.con.small := Lib.hid (ca ▸ Prox.toS_small HS.out _ _)
  have HSb : Hid b.con.small := Lib.hid (cb ▸ Prox.toC_small HSU.out _ _)
  have na : a.nb = t.nb := con_nb HOa.out HTc.out (by rw [ca]; rfl)
  have nb : b.nb = u.nb := con_nb HOb.out HUc.out (by rw [cb]; rfl)
  have oa : a.no = t.no := con_no HOa.out HTc.out (by rw [ca]; simp [Prox.toS])
  have ob : b.no = u.no := con_no HOb.out HUc.out (by rw [cb]; simp [Prox.toC])
  have fa : a.fl = t.fl := congrArg Prox.C.fl ca
  have fb : b.fl = u.fl := congrArg Prox.C.fl cb
  have s1 : (State.size a.nb a.fl != State.size t.nb t.fl) = false := ne_false (by rw [na, fa])
  have s2 : (State.size b.nb b.fl != State.size u.nb u.fl) = false := ne_false (by rw [nb, fb])
  have s3 : ((a.no : Int) != (t.no : Int)) = false := ne_false (by rw [oa])
  have s4 : ((b.no : Int) != (u.no : Int)) = false := ne_false (by rw [ob])
  have bta : t.nb ≤ 4294967295 := by have := (small_of HTc.out HS.out).2.2; omega
  have btu : u.nb ≤ 4294967295 := by have := (small_of HUc.out HSU.out).2.2; omega
  have HNa := Lib.hid (show a.nb ≤ 4294967295 by omega)
  have HNb := Lib.hid (show b.nb ≤ 4294967295 by omega)
  have HNt := Lib.hid bta
  have HNu := Lib.hid btu
  have HFa := Lib.hid fa
  have HFb := Lib.hid fb
  have HCa := Lib.hid ca
  have HCb := Lib.hid cb
  have HZ8 := Lib.hid Z8
  have HZ9 := Lib.hid Z9
  have v0 : 0 ≤ (-s) % 4294967296 ∧ (-s) % 4294967296 ≤ 4294967295 := by omega
  have v1 : 0 ≤ (-st) % 4294967296 ∧ (-st) % 4294967296 ≤ 4294967295 := by omega
  have hn0 : Below wc.heap.size wc wc := Below.refl _ _
  have EQA : Hid (∀ r : Prox.C, r = Prox.toS ((-s) % 4294967296) ((-st) % 4294967296) a.con → r = t.con) := Lib.hid (by
    intro r hr
    rw [hr, HCa.out, Prox.toS_toS, show (s + (-s) % 4294967296) % 4294967296 = 0 by omega, show (st + (-st) % 4294967296) % 4294967296 = 0 by omega]
    exact con_toS_zero HTc.out)
  have EQB : Hid (∀ r : Prox.C, r = Prox.toC ((-s) % 4294967296) ((-st) % 4294967296) b.con → r = u.con) := Lib.hid (by
    intro r hr
    rw [hr, HCb.out, Prox.toC_toC, show (s + (-s) % 4294967296) % 4294967296 = 0 by omega, show (st + (-st) % 4294967296) % 4294967296 = 0 by omega]
    exact con_toC_zero HUc.out)
  clear ka kb ca cb Z8 Z9 na nb oa ob fa fb bta btu KS H6 H7 H8 hbn
  go_upto_region 7 with (fail)
  refine wp_region_held_drew (S := fun w' => (w'.cell? ⟨w.heap.size, 0, none⟩ = some (.int .i64 t.sp) ∧ w'.cell? ⟨w.heap.size, 1, none⟩ = some (.int .i64 t.dp) ∧ w'.cell? ⟨w.heap.size, 2, none⟩ = some (.int .u32 t.sq) ∧ w'.cell? ⟨w.heap.size, 3, none⟩ = some (.int .u32 t.ak) ∧ w'.cell? ⟨w.heap.size, 4, none⟩ = some (.int .i64 t.fl) ∧ w'.cell? ⟨w.heap.size, 5, none⟩ = some (.int .i64 t.wi) ∧ w'.cell? ⟨w.heap.size, 6, none⟩ = some (.int .i64 t.ur) ∧ w'.cell? ⟨w.heap.size, 7, none⟩ = some (.slice t.Ao t.no t.co) ∧ w'.cell? ⟨w.heap.size, 8, none⟩ = some (.slice t.Ab t.nb t.cb) ∧ w'.cell? ⟨w.heap.size + 1, 0, none⟩ = some (.int .i64 u.sp) ∧ w'.cell? ⟨w.heap.size + 1, 1, none⟩ = some (.int .i64 u.dp) ∧ w'.cell? ⟨w.heap.size + 1, 2, none⟩ = some (.int .u32 u.sq) ∧ w'.cell? ⟨w.heap.size + 1, 3, none⟩ = some (.int .u32 u.ak) ∧ w'.cell? ⟨w.heap.size + 1, 4, none⟩ = some (.int .i64 u.fl) ∧ w'.cell? ⟨w.heap.size + 1, 5, none⟩ = some (.int .i64 u.wi) ∧ w'.cell? ⟨w.heap.size + 1, 6, none⟩ = some (.int .i64 u.ur) ∧ w'.cell? ⟨w.heap.size + 1, 7, none⟩ = some (.slice u.Ao u.no u.co) ∧ w'.cell? ⟨w.heap.size + 1, 8, none⟩ = some (.slice u.Ab u.nb u.cb) ∧ w'.cell? ⟨p, 0, none⟩ = some (.int .u32 ((-s) % 4294967296)) ∧ w'.cell? ⟨p, 1, none⟩ = some (.int .u32 ((-st) % 4294967296)) ∧ w'.cell? ⟨g8, 0, none⟩ = some (.int .i64 a.sp) ∧ w'.cell? ⟨g8, 1, none⟩ = some (.int .i64 a.dp) ∧ w'.cell? ⟨g8, 2, none⟩ = some (.int .u32 a.sq) ∧ w'.cell? ⟨g8, 3, none⟩ = some (.int .u32 a.ak) ∧ w'.cell? ⟨g8, 4, none⟩ = some (.int .i64 a.fl) ∧ w'.cell? ⟨g8, 5, none⟩ = some (.int .i64 a.wi) ∧ w'.cell? ⟨g8, 6, none⟩ = some (.int .i64 a.ur) ∧ w'.cell? ⟨g8, 7, none⟩ = some (.slice a.Ao a.no a.co) ∧ w'.cell? ⟨g8, 8, none⟩ = some (.slice a.Ab a.nb a.cb) ∧ w'.cell? ⟨g9, 0, none⟩ = some (.int .i64 b.sp) ∧ w'.cell? ⟨g9, 1, none⟩ = some (.int .i64 b.dp) ∧ w'.cell? ⟨g9, 2, none⟩ = some (.int .u32 b.sq) ∧ w'.cell? ⟨g9, 3, none⟩ = some (.int .u32 b.ak) ∧ w'.cell? ⟨g9, 4, none⟩ = some (.int .i64 b.fl) ∧ w'.cell? ⟨g9, 5, none⟩ = some (.int .i64 b.wi) ∧ w'.cell? ⟨g9, 6, none⟩ = some (.int .i64 b.ur) ∧ w'.cell? ⟨g9, 7, none⟩ = some (.slice b.Ao b.no b.co) ∧ w'.cell? ⟨g9, 8, none⟩ = some (.slice b.Ab b.nb b.cb))) (by kernel_rfl) (KS7.out _ (by first | exact hn0 | exact bel_d hn0)) (fun hHeld => ?_)
  refine wpAnyH_takeD (i := 0) (some 34) (v := ?_) rfl rfl (by kernel_rfl) (by kernel_rfl) (by kernel_rfl) (fun _ _ _ h => h) (Or.inl ⟨by rfl, ?_⟩) (by assumption) ?_
  rotate_left
  · (intro w hSw; (try dsimp only at hSw); go_simp; try with_reducible rfl)
  try simp only [Act.put, List.setIfInBounds_toArray, List.set_cons_zero, List.set_cons_succ]
  refine wpAnyH_takeD (i := 1) (some 35) (v := ?_) rfl rfl (by kernel_rfl) (by kernel_rfl) (by kernel_rfl) (fun _ _ _ h => h) (Or.inl ⟨by rfl, ?_⟩) (by assumption) ?_
  rotate_left
  · (intro w hSw; (try dsimp only at hSw); go_simp; try with_reducible rfl)
  try simp only [Act.put, List.setIfInBounds_toArray, List.set_cons_zero, List.set_cons_succ]
  refine wpAnyH_takeD (i := 3) (some 37) (v := ?_) rfl rfl (by kernel_rfl) (by kernel_rfl) (by kernel_rfl) (fun _ _ _ h => h) (Or.inl ⟨by rfl, ?_⟩) (by assumption) ?_
  rotate_left
  · (intro w hSw; (try dsimp only at hSw); go_simp; try with_reducible rfl)
  try simp only [Act.put, List.setIfInBounds_toArray, List.set_cons_zero, List.set_cons_succ]
  refine wpAnyH_ready (rs := [2]) (by kernel_rfl) (by simp) ?_
  refine AllReadyH.cons (o := _) rfl (fun K hK => ?_) AllReadyH.nil
  go_simp
  refine (ptos_spec a _ _ _ (HOa.out.below (by first | exact hn0 | exact bel_d hn0 | exact bel_d (bel_d hn0))) HSa.out v0.1 v0.2 v1.1 v1.2).mono ?_
  rintro e x1 ⟨hx, r, rfl, kr, cr⟩
  have hn1 : Below wc.heap.size wc x1 := bel_then (by first | exact hn0 | exact bel_d hn0 | exact bel_d (bel_d hn0)) hx
  have HR := Lib.hid kr.ok
  have HC := Lib.hid cr
  clear kr cr
  clear hx hn0
  go_wp2_with fail
  refine hK.out _ _ (KS7.out _ hn1) (fun hHeld => ?_)
  clear hK K
  try simp only [Act.put, List.setIfInBounds_toArray, List.set_cons_zero, List.set_cons_succ]
  refine wpAnyH_ready (rs := [4]) (by kernel_rfl) (by simp) ?_
  refine AllReadyH.cons (o := _) rfl (fun K hK => ?_) AllReadyH.nil
  go_simp
  refine (psame_spec r t _ (by first | exact HR.out | exact HR.out.below (bel_d (Below.refl _ _))) (HTc.out.below (by first | exact hn1 | exact bel_d hn1 | exact bel_d (bel_d hn1))) (EQA.out _ HC.out) (HC.out ▸ Prox.toS_small HSa.out _ _)).mono ?_
  rintro e x2 ⟨rfl, hx⟩
  have hn2 : Below wc.heap.size wc x2 := bel_then (by first | exact hn1 | exact bel_d hn1 | exact bel_d (bel_d hn1)) hx
  clear hx hn1
  go_wp2_with fail
  refine hK.out _ _ (KS7.out _ hn2) (fun hHeld => ?_)
  clear hK K
  try simp only [Act.put, List.setIfInBounds_toArray, List.set_cons_zero, List.set_cons_succ]
  clear HR HC
  refine wpAnyH_takeD (i := 5) (some 39) (v := ?_) rfl rfl (by kernel_rfl) (by kernel_rfl) (by kernel_rfl) (fun _ _ _ h => h) (Or.inl ⟨by rfl, ?_⟩) (by assumption) ?_
  rotate_left
  · (intro w hSw; (try dsimp only at hSw); go_simp; try with_reducible rfl)
  try simp only [Act.put, List.setIfInBounds_toArray, List.set_cons_zero, List.set_cons_succ]
  refine wpAnyH_takeD (i := 6) (some 40) (v := ?_) rfl rfl (by kernel_rfl) (by kernel_rfl) (by kernel_rfl) (fun _ _ _ h => h) (Or.inl ⟨by rfl, ?_⟩) (by assumption) ?_
  rotate_left
  · (intro w hSw; (try dsimp only at hSw); go_simp; try with_reducible rfl)
  try simp only [Act.put, List.setIfInBounds_toArray, List.set_cons_zero, List.set_cons_succ]
  refine wpAnyH_takeD (i := 7) (some 41) (v := ?_) rfl rfl (by kernel_rfl) (by kernel_rfl) (by kernel_rfl) (fun _ _ _ h => h) (Or.inl ⟨by rfl, ?_⟩) (by assumption) ?_
  rotate_left
  · (intro w hSw; (try dsimp only at hSw); go_simp; try with_reducible rfl)
  try simp only [Act.put, List.setIfInBounds_toArray, List.set_cons_zero, List.set_cons_succ]
  refine wpAnyH_takeD (i := 8) (some 42) (v := ?_) rfl rfl (by kernel_rfl) (by kernel_rfl) (by kernel_rfl) (fun _ _ _ h => h) (Or.inl ⟨by rfl, ?_⟩) (by assumption) ?_
  rotate_left
  · (intro w hSw; (try dsimp only at hSw); go_simp; try with_reducible rfl)
  try simp only [Act.put, List.setIfInBounds_toArray, List.set_cons_zero, List.set_cons_succ]
  refine wpAnyH_takeD (i := 10) (some 44) (v := ?_) rfl rfl (by kernel_rfl) (by kernel_rfl) (by kernel_rfl) (fun _ _ _ h => h) (Or.inl ⟨by rfl, ?_⟩) (by assumption) ?_
  rotate_left
  · (intro w hSw; (try dsimp only at hSw); go_simp; try with_reducible rfl)
  try simp only [Act.put, List.setIfInBounds_toArray, List.set_cons_zero, List.set_cons_succ]
  refine wpAnyH_ready (rs := [9]) (by kernel_rfl) (by simp) ?_
  refine AllReadyH.cons (o := _) rfl (fun K hK => ?_) AllReadyH.nil
  go_simp
  refine (ptoc_spec b _ _ _ (HOb.out.below (by first | exact hn2 | exact bel_d hn2 | exact bel_d (bel_d hn2))) HSb.out v0.1 v0.2 v1.1 v1.2).mono ?_
  rintro e x3 ⟨hx, r, rfl, kr, cr⟩
  have hn3 : Below wc.heap.size wc x3 := bel_then (by first | exact hn2 | exact bel_d hn2 | exact bel_d (bel_d hn2)) hx
  have HR := Lib.hid kr.ok
  have HC := Lib.hid cr
  clear kr cr
  clear hx hn2
  go_wp2_with fail
  refine hK.out _ _ (KS7.out _ hn3) (fun hHeld => ?_)
  clear hK K
  try simp only [Act.put, List.setIfInBounds_toArray, List.set_cons_zero, List.set_cons_succ]
  refine wpAnyH_ready (rs := [11]) (by kernel_rfl) (by simp) ?_
  refine AllReadyH.cons (o := _) rfl (fun K hK => ?_) AllReadyH.nil
  go_simp
  refine (psame_spec r u _ (by first | exact HR.out | exact HR.out.below (bel_d (Below.refl _ _))) (HUc.out.below (by first | exact hn3 | exact bel_d hn3 | exact bel_d (bel_d hn3))) (EQB.out _ HC.out) (HC.out ▸ Prox.toC_small HSb.out _ _)).mono ?_
  rintro e x4 ⟨rfl, hx⟩
  have hn4 : Below wc.heap.size wc x4 := bel_then (by first | exact hn3 | exact bel_d hn3 | exact bel_d (bel_d hn3)) hx
  clear hx hn3
  go_wp2_with fail
  refine hK.out _ _ (KS7.out _ hn4) (fun hHeld => ?_)
  clear hK K
  try simp only [Act.put, List.setIfInBounds_toArray, List.set_cons_zero, List.set_cons_succ]
  clear HR HC
  refine wpAnyH_takeD (i := 12) (some 46) (v := ?_) rfl rfl (by kernel_rfl) (by kernel_rfl) (by kernel_rfl) (fun _ _ _ h => h) (Or.inl ⟨by rfl, ?_⟩) (by assumption) ?_
  rotate_left
  · (intro w hSw; (try dsimp only at hSw); go_simp; try with_reducible rfl)
  try simp only [Act.put, List.setIfInBounds_toArray, List.set_cons_zero, List.set_cons_succ]
  refine wpAnyH_takeD (i := 13) (some 47) (v := ?_) rfl rfl (by kernel_rfl) (by kernel_rfl) (by kernel_rfl) (fun _ _ _ h => h) (Or.inl ⟨by rfl, ?_⟩) (by assumption) ?_
  rotate_left
  · (intro w hSw; (try dsimp only at hSw); go_simp; try with_reducible rfl)
  try simp only [Act.put, List.setIfInBounds_toArray, List.set_cons_zero, List.set_cons_succ]
  refine wpAnyH_takeD (i := 14) (some 48) (v := ?_) rfl rfl (by kernel_rfl) (by kernel_rfl) (by kernel_rfl) (fun _ _ _ h => h) (Or.inl ⟨by rfl, ?_⟩) (by assumption) ?_
  rotate_left
  · (intro w hSw; (try dsimp only at hSw); go_simp; try with_reducible rfl)
  try simp only [Act.put, List.setIfInBounds_toArray, List.set_cons_zero, List.set_cons_succ]
  refine wpAnyH_takeD (i := 15) (some 49) (v := ?_) rfl rfl (by kernel_rfl) (by kernel_rfl) (by kernel_rfl) (fun _ _ _ h => h) (Or.inl ⟨by rfl, ?_⟩) (by assumption) ?_
  rotate_left
  · (intro w hSw; (try dsimp only at hSw); go_simp; try with_reducible rfl)
  try simp only [Act.put, List.setIfInBounds_toArray, List.set_cons_zero, List.set_cons_succ]
  refine wpAnyH_takeD (i := 17) (some 51) (v := ?_) rfl rfl (by kernel_rfl) (by kernel_rfl) (by kernel_rfl) (fun _ _ _ h => h) (Or.inl ⟨by rfl, ?_⟩) (by assumption) ?_
  rotate_left
  · (intro w hSw; (try dsimp only at hSw); go_simp; try with_reducible rfl)
  try simp only [Act.put, List.setIfInBounds_toArray, List.set_cons_zero, List.set_cons_succ]
  refine wpAnyH_ready (rs := [16]) (by kernel_rfl) (by simp) ?_
  refine AllReadyH.cons (o := _) rfl (fun K hK => ?_) AllReadyH.nil
  go_simp
  refine (size_spec a.sp a.dp a.sq a.ak a.fl a.wi a.ur a.Ao a.no a.co a.Ab a.nb a.cb _ HNa.out).mono ?_
  rintro e x5 ⟨rfl, hx⟩
  have hn5 : Below wc.heap.size wc x5 := bel_then (by first | exact hn4 | exact bel_d hn4 | exact bel_d (bel_d hn4)) hx
  clear hx hn4
  go_wp2_with fail
  refine hK.out _ _ (KS7.out _ hn5) (fun hHeld => ?_)
  clear hK K
  try simp only [Act.put, List.setIfInBounds_toArray, List.set_cons_zero, List.set_cons_succ]
  refine wpAnyH_ready (rs := [18]) (by kernel_rfl) (by simp) ?_
  refine AllReadyH.cons (o := _) rfl (fun K hK => ?_) AllReadyH.nil
  go_simp
  refine (size_spec t.sp t.dp t.sq t.ak t.fl t.wi t.ur t.Ao t.no t.co t.Ab t.nb t.cb _ HNt.out).mono ?_
  rintro e x6 ⟨rfl, hx⟩
  have hn6 : Below wc.heap.size wc x6 := bel_then (by first | exact hn5 | exact bel_d hn5 | exact bel_d (bel_d hn5)) hx
  clear hx hn5
  go_wp2_with fail
  refine hK.out _ _ (KS7.out _ hn6) (fun hHeld => ?_)
  clear hK K
  try simp only [Act.put, List.setIfInBounds_toArray, List.set_cons_zero, List.set_cons_succ]
  refine wpAnyH_takeD (i := 19) (some 53) (v := ?_) rfl rfl (by kernel_rfl) (by kernel_rfl) (by kernel_rfl) (fun _ _ _ h => h) (Or.inl ⟨by rfl, ?_⟩) (by assumption) ?_
  rotate_left
  · (intro w hSw; (try dsimp only at hSw); go_simp; try with_reducible rfl)
  try simp only [Act.put, List.setIfInBounds_toArray, List.set_cons_zero, List.set_cons_succ]
  refine wpAnyH_takeD (i := 20) (some 54) (v := ?_) rfl rfl (by kernel_rfl) (by kernel_rfl) (by kernel_rfl) (fun _ _ _ h => h) (Or.inl ⟨by rfl, ?_⟩) (by assumption) ?_
  rotate_left
  · (intro w hSw; (try dsimp only at hSw); go_simp; try with_reducible rfl)
  try simp only [Act.put, List.setIfInBounds_toArray, List.set_cons_zero, List.set_cons_succ]
  refine wpAnyH_takeD (i := 21) (some 55) (v := ?_) rfl rfl (by kernel_rfl) (by kernel_rfl) (by kernel_rfl) (fun _ _ _ h => h) (Or.inl ⟨by rfl, ?_⟩) (by assumption) ?_
  rotate_left
  · (intro w hSw; (try dsimp only at hSw); go_simp; try with_reducible rfl)
  try simp only [Act.put, List.setIfInBounds_toArray, List.set_cons_zero, List.set_cons_succ]
  refine wpAnyH_takeD (i := 22) (some 56) (v := ?_) rfl rfl (by kernel_rfl) (by kernel_rfl) (by kernel_rfl) (fun _ _ _ h => h) (Or.inl ⟨by rfl, ?_⟩) (by assumption) ?_
  rotate_left
  · (intro w hSw; (try dsimp only at hSw); go_simp; try with_reducible rfl)
  try simp only [Act.put, List.setIfInBounds_toArray, List.set_cons_zero, List.set_cons_succ]
  refine wpAnyH_takeD (i := 24) (some 58) (v := ?_) rfl rfl (by kernel_rfl) (by kernel_rfl) (by kernel_rfl) (fun _ _ _ h => h) (Or.inl ⟨by rfl, ?_⟩) (by assumption) ?_
  rotate_left
  · (intro w hSw; (try dsimp only at hSw); go_simp; try with_reducible rfl)
  try simp only [Act.put, List.setIfInBounds_toArray, List.set_cons_zero, List.set_cons_succ]
  refine wpAnyH_ready (rs := [23]) (by kernel_rfl) (by simp) ?_
  refine AllReadyH.cons (o := _) rfl (fun K hK => ?_) AllReadyH.nil
  go_simp
  refine (size_spec b.sp b.dp b.sq b.ak b.fl b.wi b.ur b.Ao b.no b.co b.Ab b.nb b.cb _ HNb.out).mono ?_
  rintro e x7 ⟨rfl, hx⟩
  have hn7 : Below wc.heap.size wc x7 := bel_then (by first | exact hn6 | exact bel_d hn6 | exact bel_d (bel_d hn6)) hx
  clear hx hn6
  go_wp2_with fail
  refine hK.out _ _ (KS7.out _ hn7) (fun hHeld => ?_)
  clear hK K
  try simp only [Act.put, List.setIfInBounds_toArray, List.set_cons_zero, List.set_cons_succ]
  refine wpAnyH_ready (rs := [25]) (by kernel_rfl) (by simp) ?_
  refine AllReadyH.cons (o := _) rfl (fun K hK => ?_) AllReadyH.nil
  go_simp
  refine (size_spec u.sp u.dp u.sq u.ak u.fl u.wi u.ur u.Ao u.no u.co u.Ab u.nb u.cb _ HNu.out).mono ?_
  rintro e x8 ⟨rfl, hx⟩
  have hn8 : Below wc.heap.size wc x8 := bel_then (by first | exact hn7 | exact bel_d hn7 | exact bel_d (bel_d hn7)) hx
  clear hx hn7
  go_wp2_with fail
  refine hK.out _ _ (KS7.out _ hn8) (fun hHeld => ?_)
  clear hK K
  try simp only [Act.put, List.setIfInBounds_toArray, List.set_cons_zero, List.set_cons_succ]
  refine wpAnyH_takeD (i := 26) (some 60) (v := ?_) rfl rfl (by kernel_rfl) (by kernel_rfl) (by kernel_rfl) (fun _ _ _ h => h) (Or.inl ⟨by rfl, ?_⟩) (by assumption) ?_
  rotate_left
  · (intro w hSw; (try dsimp only at hSw); go_simp; try with_reducible rfl)
  try simp only [Act.put, List.setIfInBounds_toArray, List.set_cons_zero, List.set_cons_succ]
  refine wpAnyH_takeD (i := 27) (some 61) (v := ?_) rfl rfl (by kernel_rfl) (by kernel_rfl) (by kernel_rfl) (fun _ _ _ h => h) (Or.inl ⟨by rfl, ?_⟩) (by assumption) ?_
  rotate_left
  · (intro w hSw; (try dsimp only at hSw); go_simp; try with_reducible rfl)
  try simp only [Act.put, List.setIfInBounds_toArray, List.set_cons_zero, List.set_cons_succ]
  refine wpAnyH_takeD (i := 28) (some 62) (v := ?_) rfl rfl (by kernel_rfl) (by kernel_rfl) (by kernel_rfl) (fun _ _ _ h => h) (Or.inl ⟨by rfl, ?_⟩) (by assumption) ?_
  rotate_left
  · (intro w hSw; (try dsimp only at hSw); go_simp; try with_reducible rfl)
  try simp only [Act.put, List.setIfInBounds_toArray, List.set_cons_zero, List.set_cons_succ]
  refine wpAnyH_takeD (i := 29) (some 63) (v := ?_) rfl rfl (by kernel_rfl) (by kernel_rfl) (by kernel_rfl) (fun _ _ _ h => h) (Or.inl ⟨by rfl, ?_⟩) (by assumption) ?_
  rotate_left
  · (intro w hSw; (try dsimp only at hSw); go_simp; try with_reducible rfl)
  try simp only [Act.put, List.setIfInBounds_toArray, List.set_cons_zero, List.set_cons_succ]
  refine wpAnyH_takeD (i := 30) (some 64) (v := ?_) rfl rfl (by kernel_rfl) (by kernel_rfl) (by kernel_rfl) (fun _ _ _ h => h) (Or.inl ⟨by rfl, ?_⟩) (by assumption) ?_
  rotate_left
  · (intro w hSw; (try dsimp only at hSw); go_simp; try with_reducible rfl)
  try simp only [Act.put, List.setIfInBounds_toArray, List.set_cons_zero, List.set_cons_succ]
  refine wpAnyH_takeD (i := 31) (some 65) (v := ?_) rfl rfl (by kernel_rfl) (by kernel_rfl) (by kernel_rfl) (fun _ _ _ h => h) (Or.inl ⟨by rfl, ?_⟩) (by assumption) ?_
  rotate_left
  · (intro w hSw; (try dsimp only at hSw); go_simp; try with_reducible rfl)
  try simp only [Act.put, List.setIfInBounds_toArray, List.set_cons_zero, List.set_cons_succ]
  refine wpAnyH_takeD (i := 32) (some 66) (v := ?_) rfl rfl (by kernel_rfl) (by kernel_rfl) (by kernel_rfl) (fun _ _ _ h => h) (Or.inl ⟨by rfl, ?_⟩) (by assumption) ?_
  rotate_left
  · (intro w hSw; (try dsimp only at hSw); go_simp; try with_reducible rfl)
  try simp only [Act.put, List.setIfInBounds_toArray, List.set_cons_zero, List.set_cons_succ]
  refine wpAnyH_takeD (i := 33) (some 67) (v := ?_) rfl rfl (by kernel_rfl) (by kernel_rfl) (by kernel_rfl) (fun _ _ _ h => h) (Or.inl ⟨by rfl, ?_⟩) (by assumption) ?_
  rotate_left
  · (intro w hSw; (try dsimp only at hSw); go_simp; try with_reducible rfl)
  try simp only [Act.put, List.setIfInBounds_toArray, List.set_cons_zero, List.set_cons_succ]
  refine wpAnyH_takeD (i := 34) (some 68) (v := ?_) rfl rfl (by kernel_rfl) (by kernel_rfl) (by kernel_rfl) (fun _ _ _ h => h) (Or.inl ⟨by rfl, ?_⟩) (by assumption) ?_
  rotate_left
  · (intro w hSw; (try dsimp only at hSw); go_simp; try with_reducible rfl)
  try simp only [Act.put, List.setIfInBounds_toArray, List.set_cons_zero, List.set_cons_succ]
  refine wpAnyH_takeD (i := 35) (some 69) (v := ?_) rfl rfl (by kernel_rfl) (by kernel_rfl) (by kernel_rfl) (fun _ _ _ h => h) (Or.inl ⟨by rfl, ?_⟩) (by assumption) ?_
  rotate_left
  · (intro w hSw; (try dsimp only at hSw); go_simp; try with_reducible rfl)
  try simp only [Act.put, List.setIfInBounds_toArray, List.set_cons_zero, List.set_cons_succ]
  refine wpAnyH_takeD (i := 36) (some 70) (v := ?_) rfl rfl (by kernel_rfl) (by kernel_rfl) (by kernel_rfl) (fun _ _ _ h => h) (Or.inl ⟨by rfl, ?_⟩) (by assumption) ?_
  rotate_left
  · (intro w hSw; (try dsimp only at hSw); go_simp; try with_reducible rfl)
  try simp only [Act.put, List.setIfInBounds_toArray, List.set_cons_zero, List.set_cons_succ]
  refine wpAnyH_takeD (i := 37) (some 71) (v := ?_) rfl rfl (by kernel_rfl) (by kernel_rfl) (by kernel_rfl) (fun _ _ _ h => h) (Or.inl ⟨by rfl, ?_⟩) (by assumption) ?_
  rotate_left
  · (intro w hSw; (try dsimp only at hSw); go_simp; try with_reducible rfl)
  try simp only [Act.put, List.setIfInBounds_toArray, List.set_cons_zero, List.set_cons_succ]
  refine wpAnyH_takeD (i := 38) (some 72) (v := ?_) rfl rfl (by kernel_rfl) (by kernel_rfl) (by kernel_rfl) (fun _ _ _ h => h) (Or.inl ⟨by rfl, ?_⟩) (by assumption) ?_
  rotate_left
  · (intro w hSw; (try dsimp only at hSw); go_simp; try with_reducible rfl)
  try simp only [Act.put, List.setIfInBounds_toArray, List.set_cons_zero, List.set_cons_succ]
  refine wpAnyH_takeD (i := 39) (some 73) (v := ?_) rfl rfl (by kernel_rfl) (by kernel_rfl) (by kernel_rfl) (fun _ _ _ h => h) (Or.inl ⟨by rfl, ?_⟩) (by assumption) ?_
  rotate_left
  · (intro w hSw; (try dsimp only at hSw); go_simp; try with_reducible rfl)
  try simp only [Act.put, List.setIfInBounds_toArray, List.set_cons_zero, List.set_cons_succ]
  refine wpAnyH_takeD (i := 40) (some 74) (v := ?_) rfl rfl (by kernel_rfl) (by kernel_rfl) (by kernel_rfl) (fun _ _ _ h => h) (Or.inl ⟨by rfl, ?_⟩) (by assumption) ?_
  rotate_left
  · (intro w hSw; (try dsimp only at hSw); go_simp; try with_reducible rfl)
  try simp only [Act.put, List.setIfInBounds_toArray, List.set_cons_zero, List.set_cons_succ]
  refine wpAnyH_takeD (i := 41) (some 75) (v := ?_) rfl rfl (by kernel_rfl) (by kernel_rfl) (by kernel_rfl) (fun _ _ _ h => h) (Or.inl ⟨by rfl, ?_⟩) (by assumption) ?_
  rotate_left
  · (intro w hSw; (try dsimp only at hSw); go_simp; try with_reducible rfl)
  try simp only [Act.put, List.setIfInBounds_toArray, List.set_cons_zero, List.set_cons_succ]
  refine wpAnyH_takeD (i := 42) (some 76) (v := ?_) rfl rfl (by kernel_rfl) (by kernel_rfl) (by kernel_rfl) (fun _ _ _ h => h) (Or.inl ⟨by rfl, ?_⟩) (by assumption) ?_
  rotate_left
  · (intro w hSw; (try dsimp only at hSw); go_simp; try with_reducible rfl)
  try simp only [Act.put, List.setIfInBounds_toArray, List.set_cons_zero, List.set_cons_succ]
  refine wpAnyH_takeD (i := 43) (some 77) (v := ?_) rfl rfl (by kernel_rfl) (by kernel_rfl) (by kernel_rfl) (fun _ _ _ h => h) (Or.inl ⟨by rfl, ?_⟩) (by assumption) ?_
  rotate_left
  · (intro w hSw; (try dsimp only at hSw); go_simp; try with_reducible rfl)
  try simp only [Act.put, List.setIfInBounds_toArray, List.set_cons_zero, List.set_cons_succ]
  refine wpAnyH_takeD (i := 44) (some 78) (v := ?_) rfl rfl (by kernel_rfl) (by kernel_rfl) (by kernel_rfl) (fun _ _ _ h => h) (Or.inl ⟨by rfl, ?_⟩) (by assumption) ?_
  rotate_left
  · (intro w hSw; (try dsimp only at hSw); go_simp; try with_reducible rfl)
  try simp only [Act.put, List.setIfInBounds_toArray, List.set_cons_zero, List.set_cons_succ]
  refine wpAnyH_takeD (i := 45) (some 79) (v := ?_) rfl rfl (by kernel_rfl) (by kernel_rfl) (by kernel_rfl) (fun _ _ _ h => h) (Or.inl ⟨by rfl, ?_⟩) (by assumption) ?_
  rotate_left
  · (intro w hSw; (try dsimp only at hSw); go_simp; try with_reducible rfl)
  try simp only [Act.put, List.setIfInBounds_toArray, List.set_cons_zero, List.set_cons_succ]
  refine wpAnyH_done (by kernel_rfl) ?_ _
  clear hHeld s1 s2 s3 s4
  obtain ⟨c0, c1, c2, c3, c4, c5, c6, c7, c8, d0, d1, d2, d3, d4, d5, d6, d7, d8, p0, p1, e0, e1, e2, e3, e4, e5, e6, e7, e8, f0, f1, f2, f3, f4, f5, f6, f7, f8⟩ := KS7.out _ hn8
  have q1 : (a.sp != t.sp) = false := ne_false (congrArg Prox.C.sp HCa.out)
  have q2 : (a.dp != t.dp) = false := ne_false (congrArg Prox.C.dp HCa.out)
  have q3 : (a.fl != t.fl) = false := ne_false HFa.out
  have q4 : (a.wi != t.wi) = false := ne_false (congrArg Prox.C.wi HCa.out)
  have q5 : (a.sq != t.sq) = false := ne_false (congrArg Prox.C.sq HCa.out)
  have q6 : (b.ak != u.ak) = false := ne_false (congrArg Prox.C.ak HCb.out)
  have q7 : (b.wi != u.wi) = false := ne_false (congrArg Prox.C.wi HCb.out)
  have q8 : (b.fl != u.fl) = false := ne_false HFb.out
  go_upto_region 11 with (fail)
  clear q1 q2 q3 q4 q5 q6 q7 q8
  go_upto_region 13 with (fail)
  clear c0 c1 c2 c3 c4 c5 c6 c7 c8 d0 d1 d2 d3 d4 d5 d6 d7 d8 p0 p1 e0 e1 e2 e3 e4 e5 e6 e7 e8 f0 f1 f2 f3 f4 f5 f6 f7 f8
  obtain ⟨Y, hY⟩ : ∃ Y, Y = x8.alloc (.cells #[.int .i64 t.sp, .int .i64 t.dp, .int .u32 t.sq, .int .u32 t.ak, .int .i64 (bits .or .i64 t.fl 16), .int .i64 t.wi, .int .i64 t.ur, .slice t.Ao t.no t.co, .slice t.Ab t.nb t.cb] 26) := ⟨_, rfl⟩
  obtain ⟨g10, hg⟩ : ∃ g, g = x8.heap.size := ⟨_, rfl⟩
  have BY : BlkV Y g10 26 [.int .i64 t.sp, .int .i64 t.dp, .int .u32 t.sq, .int .u32 t.ak, .int .i64 (bits .or .i64 t.fl 16), .int .i64 t.wi, .int .i64 t.ur, .slice t.Ao t.no t.co, .slice t.Ab t.nb t.cb] := by rw [hY, hg]; exact BlkV.new_at _ _ _ rfl
  have hnY : Below wc.heap.size wc Y := by rw [hY]; exact bel_a hn8 _
  have hgc : wc.heap.size ≤ g10 := by rw [hg]; exact hn8.size
  rw [← hY, ← hg]
  have HSS := Lib.hid (seq_step b.sq (State.size b.nb b.fl))
  clear hY hg hn8
  refine wp_region_held_drew (S := fun w' => (w'.cell? ⟨w.heap.size, 0, none⟩ = some (.int .i64 t.sp) ∧ w'.cell? ⟨w.heap.size, 1, none⟩ = some (.int .i64 t.dp) ∧ w'.cell? ⟨w.heap.size, 2, none⟩ = some (.int .u32 t.sq) ∧ w'.cell? ⟨w.heap.size, 3, none⟩ = some (.int .u32 t.ak) ∧ w'.cell? ⟨w.heap.size, 4, none⟩ = some (.int .i64 t.fl) ∧ w'.cell? ⟨w.heap.size, 5, none⟩ = some (.int .i64 t.wi) ∧ w'.cell? ⟨w.heap.size, 6, none⟩ = some (.int .i64 t.ur) ∧ w'.cell? ⟨w.heap.size, 7, none⟩ = some (.slice t.Ao t.no t.co) ∧ w'.cell? ⟨w.heap.size, 8, none⟩ = some (.slice t.Ab t.nb t.cb) ∧ w'.cell? ⟨w.heap.size + 1, 0, none⟩ = some (.int .i64 u.sp) ∧ w'.cell? ⟨w.heap.size + 1, 1, none⟩ = some (.int .i64 u.dp) ∧ w'.cell? ⟨w.heap.size + 1, 2, none⟩ = some (.int .u32 u.sq) ∧ w'.cell? ⟨w.heap.size + 1, 3, none⟩ = some (.int .u32 u.ak) ∧ w'.cell? ⟨w.heap.size + 1, 4, none⟩ = some (.int .i64 u.fl) ∧ w'.cell? ⟨w.heap.size + 1, 5, none⟩ = some (.int .i64 u.wi) ∧ w'.cell? ⟨w.heap.size + 1, 6, none⟩ = some (.int .i64 u.ur) ∧ w'.cell? ⟨w.heap.size + 1, 7, none⟩ = some (.slice u.Ao u.no u.co) ∧ w'.cell? ⟨w.heap.size + 1, 8, none⟩ = some (.slice u.Ab u.nb u.cb) ∧ w'.cell? ⟨p, 0, none⟩ = some (.int .u32 ((-s) % 4294967296)) ∧ w'.cell? ⟨p, 1, none⟩ = some (.int .u32 ((-st) % 4294967296)) ∧ w'.cell? ⟨g8, 0, none⟩ = some (.int .i64 a.sp) ∧ w'.cell? ⟨g8, 1, none⟩ = some (.int .i64 a.dp) ∧ w'.cell? ⟨g8, 2, none⟩ = some (.int .u32 a.sq) ∧ w'.cell? ⟨g8, 3, none⟩ = some (.int .u32 a.ak) ∧ w'.cell? ⟨g8, 4, none⟩ = some (.int .i64 a.fl) ∧ w'.cell? ⟨g8, 5, none⟩ = some (.int .i64 a.wi) ∧ w'.cell? ⟨g8, 6, none⟩ = some (.int .i64 a.ur) ∧ w'.cell? ⟨g8, 7, none⟩ = some (.slice a.Ao a.no a.co) ∧ w'.cell? ⟨g8, 8, none⟩ = some (.slice a.Ab a.nb a.cb) ∧ w'.cell? ⟨g9, 0, none⟩ = some (.int .i64 b.sp) ∧ w'.cell? ⟨g9, 1, none⟩ = some (.int .i64 b.dp) ∧ w'.cell? ⟨g9, 2, none⟩ = some (.int .u32 b.sq) ∧ w'.cell? ⟨g9, 3, none⟩ = some (.int .u32 b.ak) ∧ w'.cell? ⟨g9, 4, none⟩ = some (.int .i64 b.fl) ∧ w'.cell? ⟨g9, 5, none⟩ = some (.int .i64 b.wi) ∧ w'.cell? ⟨g9, 6, none⟩ = some (.int .i64 b.ur) ∧ w'.cell? ⟨g9, 7, none⟩ = some (.slice b.Ao b.no b.co) ∧ w'.cell? ⟨g9, 8, none⟩ = some (.slice b.Ab b.nb b.cb))) (by kernel_rfl) (KS7.out _ (by first | exact hnY | exact bel_d hnY)) (fun hHeld => ?_)
  refine wpAnyH_takeD (i := 0) (some 139) (v := ?_) rfl rfl (by kernel_rfl) (by kernel_rfl) (by kernel_rfl) (fun _ _ _ h => h) (Or.inl ⟨by rfl, ?_⟩) (by assumption) ?_
  rotate_left
  · (intro w hSw; (try dsimp only at hSw); go_simp; try with_reducible rfl)
  try simp only [Act.put, List.setIfInBounds_toArray, List.set_cons_zero, List.set_cons_succ]
  refine wpAnyH_takeD (i := 1) (some 140) (v := ?_) rfl rfl (by kernel_rfl) (by kernel_rfl) (by kernel_rfl) (fun _ _ _ h => h) (Or.inl ⟨by rfl, ?_⟩) (by assumption) ?_
  rotate_left
  · (intro w hSw; (try dsimp only at hSw); go_simp; try with_reducible rfl)
  try simp only [Act.put, List.setIfInBounds_toArray, List.set_cons_zero, List.set_cons_succ]
  refine wpAnyH_takeD (i := 2) (some 141) (v := ?_) rfl rfl (by kernel_rfl) (by kernel_rfl) (by kernel_rfl) (fun _ _ _ h => h) (Or.inl ⟨by rfl, ?_⟩) (by assumption) ?_
  rotate_left
  · (intro w hSw; (try dsimp only at hSw); go_simp; try with_reducible rfl)
  try simp only [Act.put, List.setIfInBounds_toArray, List.set_cons_zero, List.set_cons_succ]
  refine wpAnyH_ready (rs := [3]) (by kernel_rfl) (by simp) ?_
  refine AllReadyH.cons (o := _) rfl (fun K hK => ?_) AllReadyH.nil
  go_simp
  refine (size_spec b.sp b.dp b.sq b.ak b.fl b.wi b.ur b.Ao b.no b.co b.Ab b.nb b.cb _ HNb.out).mono ?_
  rintro e x9 ⟨rfl, hx⟩
  have hy : Below Y.heap.size Y x9 := (by first | exact hx | exact bel_then (bel_d (Below.refl Y.heap.size Y)) hx)
  have hn9 := bel_then hnY hy
  have BY9 := BY.below hy
  clear BY hy hx hnY
  go_wp2_with fail
  refine hK.out _ _ (KS7.out _ hn9) (fun hHeld => ?_)
  clear hK K
  try simp only [Act.put, List.setIfInBounds_toArray, List.set_cons_zero, List.set_cons_succ]
  refine wpAnyH_ready (rs := [4]) (by kernel_rfl) (by simp) ?_
  refine AllReadyH.cons (o := _) rfl (fun K hK => ?_) AllReadyH.nil
  go_simp
  refine (HSS.out _).mono ?_
  rintro e wx ⟨rfl, rfl⟩
  go_wp2_with fail
  refine hK.out _ _ (KS7.out _ hn9) (fun hHeld => ?_)
  clear hK K
  try simp only [Act.put, List.setIfInBounds_toArray, List.set_cons_zero, List.set_cons_succ]
  refine wpAnyH_takeD (i := 5) (some 144) (v := ?_) rfl rfl (by kernel_rfl) (by kernel_rfl) (by kernel_rfl) (fun _ _ _ h => h) (Or.inl ⟨by rfl, ?_⟩) (by assumption) ?_
  rotate_left
  · (intro w hSw; (try dsimp only at hSw); go_simp; try with_reducible rfl)
  try simp only [Act.put, List.setIfInBounds_toArray, List.set_cons_zero, List.set_cons_succ]
  refine wpAnyH_ready (rs := [6]) (by kernel_rfl) (by simp) ?_
  refine AllReadyH.cons (o := _) rfl (fun K hK => ?_) AllReadyH.nil
  rw [if_pos (by rfl)]
  refine wp_stF 22 _ _ 3 (.int .u32 (Seq.step b.sq (State.size b.nb b.fl))) rfl (by rfl) (by rfl) (by rfl) BY9 (by simp) (by kernel_rfl) rfl ?_
  intro z BZ hz
  have hn10 := hz.bel hgc hn9
  refine hK.out _ _ (KS7.out _ hn10) (fun hHeld => ?_)
  clear hK K
  try simp only [Act.put, List.setIfInBounds_toArray, List.set_cons_zero, List.set_cons_succ]
  refine wpAnyH_done (by kernel_rfl) ?_ _
  clear hHeld HSS BY9 hz hn9
  have BZ' : BlkV z g10 26 [.int .i64 t.sp, .int .i64 t.dp, .int .u32 t.sq, .int .u32 (Seq.step b.sq (State.size b.nb b.fl)), .int .i64 (bits .or .i64 t.fl 16), .int .i64 t.wi, .int .i64 t.ur, .slice t.Ao t.no t.co, .slice t.Ab t.nb t.cb] := BZ
  clear BZ
  obtain ⟨f16, hf16⟩ : ∃ f, f = bits .or .i64 t.fl 16 := ⟨_, rfl⟩
  obtain ⟨sb, hsb⟩ : ∃ f, f = Seq.step b.sq (State.size b.nb b.fl) := ⟨_, rfl⟩
  rw [← hf16, ← hsb] at BZ'
  obtain ⟨xt, hxt⟩ : ∃ x : Tcp.T, x = ⟨t.sp, t.dp, t.sq, sb, f16, t.wi, t.ur, t.Ao, t.no, t.co, t.Ab, t.nb, t.cb, t.opts, t.body⟩ := ⟨_, rfl⟩
  have BX : BlkV z g10 26 xt.cells := by rw [hxt]; exact BZ'
  have HX : Hid (xt.ok z) := Lib.hid (by
    have h := HTc.out.below hn10
    rw [hxt]
    exact ⟨h.sq, by show 0 ≤ sb ∧ sb ≤ 4294967295; rw [hsb]; have := Seq.step_bd b.sq (State.size b.nb b.fl); exact ⟨this.1, by omega⟩, by rw [hf16]; exact or16_bd t.fl, h.wi, h.opts, h.noc, h.coc, h.body, h.isb, h.nbc, h.cbc⟩)
  have HXS : Hid (xt.con.small) := Lib.hid (by rw [hxt]; exact ⟨HS.out.1, HS.out.2.1, HS.out.2.2⟩)
  have HXE : Hid (∀ r : Prox.C, r = Prox.toS s st xt.con → r.ak = Seq.step u.sq (State.size u.nb u.fl)) := Lib.hid (by
    intro r hr
    have e1 : Prox.hasAck f16 = true := by rw [hf16]; exact or16_and16 t.fl
    have e2 : r.ak = (sb + s) % 4294967296 := by rw [hr, hxt]; simp [Prox.toS, Tcp.T.con, e1]
    have e3 : b.sq = (u.sq - s) % 4294967296 := congrArg Prox.C.sq HCb.out
    have e4 : b.nb = u.nb := con_nb HOb.out HUc.out (by rw [HCb.out]; rfl)
    rw [e2, hsb, e4, HFb.out, e3]
    unfold Seq.step
    omega)
  have KS8 : Hid (∀ w' : World, Below z.heap.size z w' → (w'.cell? ⟨g10, 0, none⟩ = some (.int .i64 xt.sp) ∧ w'.cell? ⟨g10, 1, none⟩ = some (.int .i64 xt.dp) ∧ w'.cell? ⟨g10, 2, none⟩ = some (.int .u32 xt.sq) ∧ w'.cell? ⟨g10, 3, none⟩ = some (.int .u32 xt.ak) ∧ w'.cell? ⟨g10, 4, none⟩ = some (.int .i64 xt.fl) ∧ w'.cell? ⟨g10, 5, none⟩ = some (.int .i64 xt.wi) ∧ w'.cell? ⟨g10, 6, none⟩ = some (.int .i64 xt.ur) ∧ w'.cell? ⟨g10, 7, none⟩ = some (.slice xt.Ao xt.no xt.co) ∧ w'.cell? ⟨g10, 8, none⟩ = some (.slice xt.Ab xt.nb xt.cb) ∧ w'.cell? ⟨w.heap.size + 1, 0, none⟩ = some (.int .i64 u.sp) ∧ w'.cell? ⟨w.heap.size + 1, 1, none⟩ = some (.int .i64 u.dp) ∧ w'.cell? ⟨w.heap.size + 1, 2, none⟩ = some (.int .u32 u.sq) ∧ w'.cell? ⟨w.heap.size + 1, 3, none⟩ = some (.int .u32 u.ak) ∧ w'.cell? ⟨w.heap.size + 1, 4, none⟩ = some (.int .i64 u.fl) ∧ w'.cell? ⟨w.heap.size + 1, 5, none⟩ = some (.int .i64 u.wi) ∧ w'.cell? ⟨w.heap.size + 1, 6, none⟩ = some (.int .i64 u.ur) ∧ w'.cell? ⟨w.heap.size + 1, 7, none⟩ = some (.slice u.Ao u.no u.co) ∧ w'.cell? ⟨w.heap.size + 1, 8, none⟩ = some (.slice u.Ab u.nb u.cb) ∧ w'.cell? ⟨w.heap.size + 1 + 1, 0, none⟩ = some (.int .u32 s) ∧ w'.cell? ⟨w.heap.size + 1 + 1, 1, none⟩ = some (.int .u32 st))) := Lib.hid (by
    intro w' hb
    obtain ⟨c0, c1, c2, c3, c4, c5, c6, c7, c8⟩ := cells9' (BX.below hb)
    obtain ⟨d0, d1, d2, d3, d4, d5, d6, d7, d8⟩ := cells9' (((HA1.out.below hbc).below hn10).below hb)
    have A2 := (((HA2.out.below hbc).below hn10).below hb)
    exact ⟨c0, c1, c2, c3, c4, c5, c6, c7, c8, d0, d1, d2, d3, d4, d5, d6, d7, d8, A2.cell rfl, A2.cell rfl⟩)
  have hbz := bel_then hbv hn10
  clear BZ' BX hf16 hsb hxt HCa HCb EQA EQB HTc HUc HSa HSb HOa HOb HZ8 HZ9 KS7 HNa HNb HNt HFa HFb hn10
  have hn0 : Below z.heap.size z z := Below.refl _ _
  go_wp2_with fail
  refine wp_region_held_drew (S := fun w' => (w'.cell? ⟨g10, 0, none⟩ = some (.int .i64 xt.sp) ∧ w'.cell? ⟨g10, 1, none⟩ = some (.int .i64 xt.dp) ∧ w'.cell? ⟨g10, 2, none⟩ = some (.int .u32 xt.sq) ∧ w'.cell? ⟨g10, 3, none⟩ = some (.int .u32 xt.ak) ∧ w'.cell? ⟨g10, 4, none⟩ = some (.int .i64 xt.fl) ∧ w'.cell? ⟨g10, 5, none⟩ = some (.int .i64 xt.wi) ∧ w'.cell? ⟨g10, 6, none⟩ = some (.int .i64 xt.ur) ∧ w'.cell? ⟨g10, 7, none⟩ = some (.slice xt.Ao xt.no xt.co) ∧ w'.cell? ⟨g10, 8, none⟩ = some (.slice xt.Ab xt.nb xt.cb) ∧ w'.cell? ⟨w.heap.size + 1, 0, none⟩ = some (.int .i64 u.sp) ∧ w'.cell? ⟨w.heap.size + 1, 1, none⟩ = some (.int .i64 u.dp) ∧ w'.cell? ⟨w.heap.size + 1, 2, none⟩ = some (.int .u32 u.sq) ∧ w'.cell? ⟨w.heap.size + 1, 3, none⟩ = some (.int .u32 u.ak) ∧ w'.cell? ⟨w.heap.size + 1, 4, none⟩ = some (.int .i64 u.fl) ∧ w'.cell? ⟨w.heap.size + 1, 5, none⟩ = some (.int .i64 u.wi) ∧ w'.cell? ⟨w.heap.size + 1, 6, none⟩ = some (.int .i64 u.ur) ∧ w'.cell? ⟨w.heap.size + 1, 7, none⟩ = some (.slice u.Ao u.no u.co) ∧ w'.cell? ⟨w.heap.size + 1, 8, none⟩ = some (.slice u.Ab u.nb u.cb) ∧ w'.cell? ⟨w.heap.size + 1 + 1, 0, none⟩ = some (.int .u32 s) ∧ w'.cell? ⟨w.heap.size + 1 + 1, 1, none⟩ = some (.int .u32 st))) (by kernel_rfl) (KS8.out _ (by first | exact hn0 | exact bel_d hn0)) (fun hHeld => ?_)
  have hm0 := hn0
  clear hn0
  have HSS2 := Lib.hid (seq_step u.sq (State.size u.nb u.fl))
  refine wpAnyH_takeD (i := 0) (some 145) (v := ?_) rfl rfl (by kernel_rfl) (by kernel_rfl) (by kernel_rfl) (fun _ _ _ h => h) (Or.inl ⟨by rfl, ?_⟩) (by assumption) ?_
  rotate_left
  · (intro w hSw; (try dsimp only at hSw); go_simp; try with_reducible rfl)
  try simp only [Act.put, List.setIfInBounds_toArray, List.set_cons_zero, List.set_cons_succ]
  refine wpAnyH_takeD (i := 1) (some 146) (v := ?_) rfl rfl (by kernel_rfl) (by kernel_rfl) (by kernel_rfl) (fun _ _ _ h => h) (Or.inl ⟨by rfl, ?_⟩) (by assumption) ?_
  rotate_left
  · (intro w hSw; (try dsimp only at hSw); go_simp; try with_reducible rfl)
  try simp only [Act.put, List.setIfInBounds_toArray, List.set_cons_zero, List.set_cons_succ]
  refine wpAnyH_takeD (i := 4) (some 149) (v := ?_) rfl rfl (by kernel_rfl) (by kernel_rfl) (by kernel_rfl) (fun _ _ _ h => h) (Or.inl ⟨by rfl, ?_⟩) (by assumption) ?_
  rotate_left
  · (intro w hSw; (try dsimp only at hSw); go_simp; try with_reducible rfl)
  try simp only [Act.put, List.setIfInBounds_toArray, List.set_cons_zero, List.set_cons_succ]
  refine wpAnyH_takeD (i := 5) (some 150) (v := ?_) rfl rfl (by kernel_rfl) (by kernel_rfl) (by kernel_rfl) (fun _ _ _ h => h) (Or.inl ⟨by rfl, ?_⟩) (by assumption) ?_
  rotate_left
  · (intro w hSw; (try dsimp only at hSw); go_simp; try with_reducible rfl)
  try simp only [Act.put, List.setIfInBounds_toArray, List.set_cons_zero, List.set_cons_succ]
  refine wpAnyH_takeD (i := 6) (some 151) (v := ?_) rfl rfl (by kernel_rfl) (by kernel_rfl) (by kernel_rfl) (fun _ _ _ h => h) (Or.inl ⟨by rfl, ?_⟩) (by assumption) ?_
  rotate_left
  · (intro w hSw; (try dsimp only at hSw); go_simp; try with_reducible rfl)
  try simp only [Act.put, List.setIfInBounds_toArray, List.set_cons_zero, List.set_cons_succ]
  refine wpAnyH_ready (rs := [2]) (by kernel_rfl) (by simp) ?_
  refine AllReadyH.cons (o := _) rfl (fun K hK => ?_) AllReadyH.nil
  go_simp
  refine (ptos_spec xt s st _ (HX.out.below (by first | exact hm0 | exact bel_d hm0 | exact bel_d (bel_d hm0))) HXS.out h0 h1 h2 h3).mono ?_
  rintro e y1 ⟨hx, r, rfl, kr, cr⟩
  have hm1 : Below z.heap.size z y1 := bel_then (by first | exact hm0 | exact bel_d hm0 | exact bel_d (bel_d hm0)) hx
  have HR : Hid (r.ak = Seq.step u.sq (State.size u.nb u.fl)) := Lib.hid (HXE.out r.con cr)
  clear hx hm0 kr cr
  go_wp2_with fail
  refine hK.out _ _ (KS8.out _ hm1) (fun hHeld => ?_)
  clear hK K
  try simp only [Act.put, List.setIfInBounds_toArray, List.set_cons_zero, List.set_cons_succ]
  have hfd : ∀ W : World, (Instr.field 26 (.agg #[.int .i64 r.sp, .int .i64 r.dp, .int .u32 r.sq, .int .u32 r.ak, .int .i64 r.fl, .int .i64 r.wi, .int .i64 r.ur, .slice r.Ao r.no r.co, .slice r.Ab r.nb r.cb]) 3).run Try.prog W = .ok (.int .u32 r.ak) W := fun _ => by kernel_rfl
  refine wpAnyH_takeD (i := 3) (some 148) (v := ?_) rfl rfl (by kernel_rfl) (by kernel_rfl) (by kernel_rfl) (fun _ _ _ h => h) (Or.inl ⟨by rfl, ?_⟩) (by assumption) ?_
  rotate_left
  · (intro w hSw; (try dsimp only at hSw); go_simp; try with_reducible rfl)
  try simp only [Act.put, List.setIfInBounds_toArray, List.set_cons_zero, List.set_cons_succ]
  clear hfd
  refine wpAnyH_ready (rs := [7]) (by kernel_rfl) (by simp) ?_
  refine AllReadyH.cons (o := _) rfl (fun K hK => ?_) AllReadyH.nil
  go_simp
  refine (size_spec u.sp u.dp u.sq u.ak u.fl u.wi u.ur u.Ao u.no u.co u.Ab u.nb u.cb _ HNu.out).mono ?_
  rintro e y2 ⟨rfl, hx⟩
  have hm2 : Below z.heap.size z y2 := bel_then (by first | exact hm1 | exact bel_d hm1 | exact bel_d (bel_d hm1)) hx
  clear hx hm1
  go_wp2_with fail
  refine hK.out _ _ (KS8.out _ hm2) (fun hHeld => ?_)
  clear hK K
  try simp only [Act.put, List.setIfInBounds_toArray, List.set_cons_zero, List.set_cons_succ]
  refine wpAnyH_ready (rs := [8]) (by kernel_rfl) (by simp) ?_
  refine AllReadyH.cons (o := _) rfl (fun K hK => ?_) AllReadyH.nil
  go_simp
  refine (HSS2.out _).mono ?_
  rintro e y3 ⟨rfl, rfl⟩
  have hm3 := hm2
  go_wp2_with fail
  refine hK.out _ _ (KS8.out _ hm3) (fun hHeld => ?_)
  clear hK K
  try simp only [Act.put, List.setIfInBounds_toArray, List.set_cons_zero, List.set_cons_succ]
  refine wpAnyH_takeD (i := 9) (some 154) (v := ?_) rfl rfl (by kernel_rfl) (by kernel_rfl) (by kernel_rfl) (fun _ _ _ h => h) (Or.inl ⟨by rfl, ?_⟩) (by assumption) ?_
  rotate_left
  · (intro w hSw; (try dsimp only at hSw); go_simp; try with_reducible rfl)
  try simp only [Act.put, List.setIfInBounds_toArray, List.set_cons_zero, List.set_cons_succ]
  refine wpAnyH_takeD (i := 10) (some 6) (v := ?_) rfl rfl (by kernel_rfl) (by kernel_rfl) (by kernel_rfl) (fun _ _ _ h => h) (Or.inl ⟨by rfl, ?_⟩) (by assumption) ?_
  rotate_left
  · (intro w hSw; (try dsimp only at hSw); go_simp; try with_reducible rfl)
  try simp only [Act.put, List.setIfInBounds_toArray, List.set_cons_zero, List.set_cons_succ]
  refine wpAnyH_done (by kernel_rfl) ?_ _
  clear hHeld KS8
  go_wp2_with fail
  go_ret
  exact ⟨ret_bool (by rw [HR.out]; simp), bel_then hbz (by first | exact hm3 | exact bel_d hm3 | exact bel_d (bel_d hm3))⟩
end Go.Proofs.Ytklefgcackchiaa
