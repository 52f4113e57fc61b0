/- The walks of proxy.ToServer, ToClient. -/
import Derived.Test.YtklefgcackchiaaProxOptW
namespace Go.Proofs.Ytklefgcackchiaa
open Go.RowKit
set_option linter.unusedVariables false
set_option linter.unusedSimpArgs false
namespace Prox
/-- what a segment says -/
structure C where
  sp : Int
  dp : Int
  sq : Int
  ak : Int
  fl : Int
  wi : Int
  ur : Int
  opts : List O
  body : List Int
def C.small (c : C) : Prop := c.opts.length ≤ 60 ∧ (∀ o ∈ c.opts, o.2.length ≤ 300) ∧ c.body.length ≤ 3000
def hasAck (fl : Int) : Bool := Go.bits .and .i64 fl 16 != 0
def toS (s st : Int) (c : C) : C := { c with ak := if hasAck c.fl then (c.ak + s) % 4294967296 else c.ak, opts := c.opts.map (there s st) }
def toC (s st : Int) (c : C) : C := { c with sq := (c.sq - s) % 4294967296, opts := c.opts.map (back ((-st) % 4294967296)) }
theorem small_map {l : List O} {F : O → O} (h : ∀ o ∈ l, o.2.length ≤ 300) (hF : ∀ o, (F o).2.length = o.2.length) : ∀ o ∈ l.map F, o.2.length ≤ 300 := by
  intro o ho
  rw [List.mem_map] at ho
  obtain ⟨x, hx, rfl⟩ := ho
  rw [hF]
  exact h x hx
theorem toS_small {c : C} (h : c.small) (s st : Int) : (toS s st c).small := ⟨by simpa [toS] using h.1, small_map h.2.1 (fun o => (there_len s st o).1), h.2.2⟩
theorem toC_small {c : C} (h : c.small) (s st : Int) : (toC s st c).small := ⟨by simpa [toC] using h.1, small_map h.2.1 (fun o => (back_len _ o).1), h.2.2⟩
end Prox
def Tcp.T.con (t : Tcp.T) : Prox.C := ⟨t.sp, t.dp, t.sq, t.ak, t.fl, t.wi, t.ur, t.opts.map Tcp.Opt.con, t.body⟩
theorem small_of {t : Tcp.T} {w : World} (ht : t.ok w) (h : t.con.small) : t.no ≤ 60 ∧ (∀ o ∈ t.opts, o.n ≤ 300) ∧ t.nb ≤ 3000 := by
  refine ⟨?_, fun o ho => ?_, ?_⟩
  · have := h.1
    rw [Tcp.T.con, List.length_map, ht.opts.1] at this
    exact this
  · have h1 := h.2.1 o.con (List.mem_map_of_mem ho)
    have h2 := (ht.opts.2.1 o ho).1.1
    rw [bs_len] at h2
    simp only [Tcp.Opt.con] at h1
    omega
  · have h1 := h.2.2
    have h2 := ht.body.1
    rw [bs_len] at h2
    simp only [Tcp.T.con] at h1
    omega
theorem of_small {t : Tcp.T} {w : World} (ht : t.ok w) (h1 : t.no ≤ 60) (h2 : ∀ o ∈ t.opts, o.n ≤ 300) (h3 : t.nb ≤ 3000) : t.con.small := by
  refine ⟨?_, fun o ho => ?_, ?_⟩
  · rw [Tcp.T.con, List.length_map, ht.opts.1]
    exact h1
  · simp only [Tcp.T.con] at ho
    rw [List.mem_map] at ho
    obtain ⟨x, hx, rfl⟩ := ho
    have h4 := (ht.opts.2.1 x hx).1.1
    rw [bs_len] at h4
    have := h2 x hx
    simp only [Tcp.Opt.con]
    omega
  · have h4 := ht.body.1
    rw [bs_len] at h4
    simp only [Tcp.T.con]
    omega
def ShiftR (c : Prox.C) (w : World) (e : Ending) (w' : World) : Prop :=
  Below w.heap.size w w' ∧ ∃ u : Tcp.T, e = .returned (.agg #[.int .i64 u.sp, .int .i64 u.dp, .int .u32 u.sq, .int .u32 u.ak, .int .i64 u.fl, .int .i64 u.wi, .int .i64 u.ur, .slice u.Ao u.no u.co, .slice u.Ab u.nb u.cb]) ∧ TOwn u w' w.heap.size ∧ u.con = c
theorem change_there (sq st : Int) (h0 : 0 ≤ sq) (h1 : sq ≤ 4294967295) (h2 : 0 ≤ st) (h3 : st ≤ 4294967295) : Change 17 (.agg #[.int .u32 sq, .int .u32 st]) (Prox.there sq st) :=
  fun base w k A n c l ho hB hn => pthere_spec k sq st A n c l base w ho hB h0 h1 h2 h3 hn
theorem change_back (sq st : Int) (h2 : 0 ≤ st) (h3 : st ≤ 4294967295) : Change 18 (.agg #[.int .u32 sq, .int .u32 st]) (Prox.back ((-st) % 4294967296)) :=
  fun base w k A n c l ho hB hn => pback_spec k sq st A n c l base w ho hB h2 h3
theorem shift_size {l : List Value} (h : l.length = 2) : (Try.prog.info? 28).map (·.size) = some l.length := by
  rw [h]
  kernel_rfl
theorem ok_ak {t : Tcp.T} {w : World} (h : t.ok w) {a : Int} (h0 : 0 ≤ a ∧ a ≤ 4294967295) : ({t with ak := a} : Tcp.T).ok w := ⟨h.sq, h0, h.fl, h.wi, h.opts, h.noc, h.coc, h.body, h.isb, h.nbc, h.cbc⟩
theorem ok_sq {t : Tcp.T} {w : World} (h : t.ok w) {a : Int} (h0 : 0 ≤ a ∧ a ≤ 4294967295) : ({t with sq := a} : Tcp.T).ok w := ⟨h0, h.ak, h.fl, h.wi, h.opts, h.noc, h.coc, h.body, h.isb, h.nbc, h.cbc⟩
set_option maxHeartbeats 4000000 in
theorem ptos_spec (t : Tcp.T) (s st : Int) (w : World) (ht : t.ok w) (hsm : t.con.small) (h0 : 0 ≤ s) (h1 : s ≤ 4294967295) (h2 : 0 ≤ st) (h3 : st ≤ 4294967295) :
    Calls Try.prog 8 #[.agg #[.int .i64 t.sp, .int .i64 t.dp, .int .u32 t.sq, .int .u32 t.ak, .int .i64 t.fl, .int .i64 t.wi, .int .i64 t.ur, .slice t.Ao t.no t.co, .slice t.Ab t.nb t.cb], .agg #[.int .u32 s, .int .u32 st]] w (ShiftR (Prox.toS s st t.con) w) := by
  obtain ⟨W, hW⟩ : ∃ W, W = ((w.alloc (.cells #[.int .i64 t.sp, .int .i64 t.dp, .int .u32 t.sq, .int .u32 t.ak, .int .i64 t.fl, .int .i64 t.wi, .int .i64 t.ur, .slice t.Ao t.no t.co, .slice t.Ab t.nb t.cb] 26)).alloc (.cells #[.int .u32 s, .int .u32 st] 28)).alloc (.cells #[.int .i64 0, .int .i64 0, .int .u32 0, .int .u32 0, .int .i64 0, .int .i64 0, .int .i64 0, .slice none 0 0, .slice none 0 0] 26) := ⟨_, rfl⟩
  have hbW : Below w.heap.size w W := (by rw [hW]; exact (((Below.refl _ _).alloc (Nat.le_refl _) _).alloc (by simp) _).alloc (by simp; omega) _)
  have hWs : w.heap.size + 2 < W.heap.size := (by rw [hW]; simp)
  have B0 : BlkV W w.heap.size 26 [.int .i64 t.sp, .int .i64 t.dp, .int .u32 t.sq, .int .u32 t.ak, .int .i64 t.fl, .int .i64 t.wi, .int .i64 t.ur, .slice t.Ao t.no t.co, .slice t.Ab t.nb t.cb] := (by rw [hW]; exact ((BlkV.new w _ _).alloc _).alloc _)
  have B1 : BlkV W (w.heap.size + 1) 28 [.int .u32 s, .int .u32 st] := (by rw [hW]; exact (BlkV.new_at (w.alloc (.cells #[.int .i64 t.sp, .int .i64 t.dp, .int .u32 t.sq, .int .u32 t.ak, .int .i64 t.fl, .int .i64 t.wi, .int .i64 t.ur, .slice t.Ao t.no t.co, .slice t.Ab t.nb t.cb] 26)) _ _ (by simp)).alloc _)
  have B2 : BlkV W (w.heap.size + 1 + 1) 26 [.int .i64 0, .int .i64 0, .int .u32 0, .int .u32 0, .int .i64 0, .int .i64 0, .int .i64 0, .slice none 0 0, .slice none 0 0] := (by rw [hW]; exact (BlkV.new_at ((w.alloc (.cells #[.int .i64 t.sp, .int .i64 t.dp, .int .u32 t.sq, .int .u32 t.ak, .int .i64 t.fl, .int .i64 t.wi, .int .i64 t.ur, .slice t.Ao t.no t.co, .slice t.Ab t.nb t.cb] 26)).alloc (.cells #[.int .u32 s, .int .u32 st] 28)) _ _ (by simp)))
  obtain ⟨ha, hb, hc⟩ := small_of ht hsm
  obtain ⟨y, hy⟩ : ∃ y, (t.ak + s) % 4294967296 = y := ⟨_, rfl⟩
  have hyb : 0 ≤ y ∧ y ≤ 4294967295 := by omega
  obtain ⟨q, hq⟩ : ∃ q, (Go.bits .and .i64 t.fl 16 != 0) = q := ⟨_, rfl⟩
  have HTW := Lib.hid (ht.below hbW)
  have c4 := B0.cell (i := 4) rfl
  have c3 := B0.cell (i := 3) rfl
  have d0 := B1.cell (i := 0) rfl
  have EG : ∀ args w, (callFunc 17 args).run Try.prog w = .ok (.enter 17 args) w := enters_of Try.func17 (by kernel_rfl) rfl
  have HQ : Hid (Prox.toS s st t.con = ⟨t.sp, t.dp, t.sq, if q = true then y else t.ak, t.fl, t.wi, t.ur, (t.opts.map Tcp.Opt.con).map (Prox.there s st), t.body⟩) := Lib.hid (by
    subst hq
    subst hy
    rfl)
  have HOP : Hid (∀ a (w' : World), (0 ≤ a ∧ a ≤ 4294967295) → Below W.heap.size W w' ∨ OnlyB w.heap.size W w' → Calls Try.prog 16 #[.agg #[.int .i64 t.sp, .int .i64 t.dp, .int .u32 t.sq, .int .u32 a, .int .i64 t.fl, .int .i64 t.wi, .int .i64 t.ur, .slice t.Ao t.no t.co, .slice t.Ab t.nb t.cb], .func (.func 17) #[.agg #[.int .u32 s, .int .u32 st]] #[]] w' (OptsR (Prox.there s st) {t with ak := a} w')) := Lib.hid fun a w' hab hw =>
    poptions_spec 17 _ (Prox.there s st) t.sp t.dp t.sq a t.fl t.wi t.ur t.Ao t.no t.co t.Ab t.nb t.cb t.opts t.body w' (ok_ak (by
      rcases hw with h | h
      · exact HTW.out.below h
      · exact ht.below (h.bel (Nat.le_refl _) hbW)) hab) ha hb hc EG (change_there s st h0 h1 h2 h3) (Prox.there_len s st) (fun o h => Prox.there_isB s st o h)
  have HAK := Lib.hid ht.ak
  clear EG ht hsm
  cases q
  · go_enter Try.func8, Try.ntmps8
    go_upto_region 1 with (fail)
    rw [← hW]
    clear hW
    go_wp2_with (first | (refine wpList_ldB 26 _ _ (by with_reducible rfl) rfl (by rfl) B0 Try.underlying26 rfl (tcp_size (by rfl)) ?_) | (refine wpList_ldB 28 _ _ (by with_reducible rfl) rfl (by rfl) B1 Try.underlying28 rfl (shift_size (by rfl)) ?_))
    refine (HOP.out t.ak W HAK.out (.inl (Below.refl _ _))).mono ?_
    rintro e w1 ⟨hb1, u, rfl, hu, k1, k2, k3, k4, k5, k6, k7, k8, k9⟩
    have B2b := B2.below hb1
    have hs1 := hb1.size
    have HU := Lib.hid hu
    clear B0 B1 B2 c4 c3 d0 HOP HTW hu
    simp only [Tcp.T.cells]
    go_wp2_with (first | (refine wpList_stB 26 _ _ (by with_reducible rfl) rfl (by rfl) _ (by rfl) B2b (by rfl) (tcp_size (by rfl)) (by rfl) ?_; intro wM BM hM))
    obtain ⟨t0, t1, t2, t3, t4, t5, t6, t7, t8⟩ := cells9' BM
    have huM := Lib.hid ((HU.out.store B2b hM (by decide) (by decide)).weak (show w.heap.size ≤ _ by omega))
    exact bodyPost_ret (v := .agg #[.int .i64 u.sp, .int .i64 u.dp, .int .u32 u.sq, .int .u32 u.ak, .int .i64 u.fl, .int .i64 u.wi, .int .i64 u.ur, .slice u.Ao u.no u.co, .slice u.Ab u.nb u.cb]) (by simp [results, Try.results8, go_sem, t0, t1, t2, t3, t4, t5, t6, t7, t8]) rfl ⟨hM.bel (by omega) (bel_then hbW hb1), u, rfl, huM.out, by rw [HQ.out]; simp only [Tcp.T.con, k1, k2, k3, k4, k5, k6, k7, k8, k9]; rfl⟩
  · go_enter Try.func8, Try.ntmps8
    go_upto_region 1 with (fail)
    rw [← hW]
    clear hW
    have f3 := B0.unfrozen 3
    go_upto_region 3 with (fail)
    obtain ⟨wa, hwa⟩ : ∃ wa, wa = W.setCell ⟨w.heap.size, 3, none⟩ (.int .u32 y) := ⟨_, rfl⟩
    rw [← hwa]
    have BA0 := B0.put 3 (.int .u32 y)
    have hO := OnlyB.set W w.heap.size 3 (.int .u32 y)
    rw [← hwa] at BA0 hO
    clear hwa f3
    have BA := BlkV.fit BA0 (m := [.int .i64 t.sp, .int .i64 t.dp, .int .u32 t.sq, .int .u32 y, .int .i64 t.fl, .int .i64 t.wi, .int .i64 t.ur, .slice t.Ao t.no t.co, .slice t.Ab t.nb t.cb]) rfl
    have B1a := B1.only hO (by omega)
    have B2a := B2.only hO (by omega)
    have hba := hO.bel (Nat.le_refl _) hbW
    have hsa := hO.size
    have HSA := Lib.hid hsa
    have HOQ := Lib.hid (HOP.out y wa hyb (.inr hO))
    clear B0 B1 B2 c4 c3 d0 HOP hO BA0 hsa
    go_wp2_with (first | (refine wpList_ldB 26 _ _ (by with_reducible rfl) rfl (by rfl) BA Try.underlying26 rfl (tcp_size (by rfl)) ?_) | (refine wpList_ldB 28 _ _ (by with_reducible rfl) rfl (by rfl) B1a Try.underlying28 rfl (shift_size (by rfl)) ?_))
    refine HOQ.out.mono ?_
    rintro e w1 ⟨hb1, u, rfl, hu, k1, k2, k3, k4, k5, k6, k7, k8, k9⟩
    have B2b := B2a.below hb1
    have hs1 := hb1.size
    have hs1' : W.heap.size ≤ w1.heap.size := by have := HSA.out; omega
    have HU := Lib.hid hu
    clear BA B1a B2a HOQ HTW hu
    simp only [Tcp.T.cells]
    go_wp2_with (first | (refine wpList_stB 26 _ _ (by with_reducible rfl) rfl (by rfl) _ (by rfl) B2b (by rfl) (tcp_size (by rfl)) (by rfl) ?_; intro wM BM hM))
    obtain ⟨t0, t1, t2, t3, t4, t5, t6, t7, t8⟩ := cells9' BM
    have huM := Lib.hid ((HU.out.store B2b hM (by decide) (by decide)).weak (show w.heap.size ≤ _ by have := HSA.out; omega))
    exact bodyPost_ret (v := .agg #[.int .i64 u.sp, .int .i64 u.dp, .int .u32 u.sq, .int .u32 u.ak, .int .i64 u.fl, .int .i64 u.wi, .int .i64 u.ur, .slice u.Ao u.no u.co, .slice u.Ab u.nb u.cb]) (by simp [results, Try.results8, go_sem, t0, t1, t2, t3, t4, t5, t6, t7, t8]) rfl ⟨hM.bel (by omega) (bel_then hba hb1), u, rfl, huM.out, by rw [HQ.out]; simp only [Tcp.T.con, k1, k2, k3, k4, k5, k6, k7, k8, k9]; rfl⟩
set_option maxHeartbeats 4000000 in
theorem ptoc_spec (t : Tcp.T) (s st : Int) (w : World) (ht : t.ok w) (hsm : t.con.small) (h0 : 0 ≤ s) (h1 : s ≤ 4294967295) (h2 : 0 ≤ st) (h3 : st ≤ 4294967295) :
    Calls Try.prog 9 #[.agg #[.int .i64 t.sp, .int .i64 t.dp, .int .u32 t.sq, .int .u32 t.ak, .int .i64 t.fl, .int .i64 t.wi, .int .i64 t.ur, .slice t.Ao t.no t.co, .slice t.Ab t.nb t.cb], .agg #[.int .u32 s, .int .u32 st]] w (ShiftR (Prox.toC s st t.con) w) := by
  obtain ⟨W, hW⟩ : ∃ W, W = ((w.alloc (.cells #[.int .i64 t.sp, .int .i64 t.dp, .int .u32 t.sq, .int .u32 t.ak, .int .i64 t.fl, .int .i64 t.wi, .int .i64 t.ur, .slice t.Ao t.no t.co, .slice t.Ab t.nb t.cb] 26)).alloc (.cells #[.int .u32 s, .int .u32 st] 28)).alloc (.cells #[.int .i64 0, .int .i64 0, .int .u32 0, .int .u32 0, .int .i64 0, .int .i64 0, .int .i64 0, .slice none 0 0, .slice none 0 0] 26) := ⟨_, rfl⟩
  have hbW : Below w.heap.size w W := (by rw [hW]; exact (((Below.refl _ _).alloc (Nat.le_refl _) _).alloc (by simp) _).alloc (by simp; omega) _)
  have hWs : w.heap.size + 2 < W.heap.size := (by rw [hW]; simp)
  have B0 : BlkV W w.heap.size 26 [.int .i64 t.sp, .int .i64 t.dp, .int .u32 t.sq, .int .u32 t.ak, .int .i64 t.fl, .int .i64 t.wi, .int .i64 t.ur, .slice t.Ao t.no t.co, .slice t.Ab t.nb t.cb] := (by rw [hW]; exact ((BlkV.new w _ _).alloc _).alloc _)
  have B1 : BlkV W (w.heap.size + 1) 28 [.int .u32 s, .int .u32 st] := (by rw [hW]; exact (BlkV.new_at (w.alloc (.cells #[.int .i64 t.sp, .int .i64 t.dp, .int .u32 t.sq, .int .u32 t.ak, .int .i64 t.fl, .int .i64 t.wi, .int .i64 t.ur, .slice t.Ao t.no t.co, .slice t.Ab t.nb t.cb] 26)) _ _ (by simp)).alloc _)
  have B2 : BlkV W (w.heap.size + 1 + 1) 26 [.int .i64 0, .int .i64 0, .int .u32 0, .int .u32 0, .int .i64 0, .int .i64 0, .int .i64 0, .slice none 0 0, .slice none 0 0] := (by rw [hW]; exact (BlkV.new_at ((w.alloc (.cells #[.int .i64 t.sp, .int .i64 t.dp, .int .u32 t.sq, .int .u32 t.ak, .int .i64 t.fl, .int .i64 t.wi, .int .i64 t.ur, .slice t.Ao t.no t.co, .slice t.Ab t.nb t.cb] 26)).alloc (.cells #[.int .u32 s, .int .u32 st] 28)) _ _ (by simp)))
  obtain ⟨ha, hb, hc⟩ := small_of ht hsm
  obtain ⟨y, hy⟩ : ∃ y, (t.sq - s) % 4294967296 = y := ⟨_, rfl⟩
  have hyb : 0 ≤ y ∧ y ≤ 4294967295 := by omega
  have c2 := B0.cell (i := 2) rfl
  have d0 := B1.cell (i := 0) rfl
  have EG : ∀ args w, (callFunc 18 args).run Try.prog w = .ok (.enter 18 args) w := enters_of Try.func18 (by kernel_rfl) rfl
  have HQ : Hid (Prox.toC s st t.con = ⟨t.sp, t.dp, y, t.ak, t.fl, t.wi, t.ur, (t.opts.map Tcp.Opt.con).map (Prox.back ((-st) % 4294967296)), t.body⟩) := Lib.hid (by
    subst hy
    rfl)
  have HOP : Hid (∀ (w' : World), OnlyB w.heap.size W w' → Calls Try.prog 16 #[.agg #[.int .i64 t.sp, .int .i64 t.dp, .int .u32 y, .int .u32 t.ak, .int .i64 t.fl, .int .i64 t.wi, .int .i64 t.ur, .slice t.Ao t.no t.co, .slice t.Ab t.nb t.cb], .func (.func 18) #[.agg #[.int .u32 s, .int .u32 st]] #[]] w' (OptsR (Prox.back ((-st) % 4294967296)) {t with sq := y} w')) := Lib.hid fun w' h =>
    poptions_spec 18 _ (Prox.back ((-st) % 4294967296)) t.sp t.dp y t.ak t.fl t.wi t.ur t.Ao t.no t.co t.Ab t.nb t.cb t.opts t.body w' (ok_sq (ht.below (h.bel (Nat.le_refl _) hbW)) hyb) ha hb hc EG (change_back s st h2 h3) (Prox.back_len _) (fun o h => Prox.back_isB _ o h)
  clear EG ht hsm
  go_enter Try.func9, Try.ntmps9
  go_upto_region 1 with (fail)
  rw [← hW]
  clear hW
  have f2 := B0.unfrozen 2
  go_upto_region 2 with (fail)
  obtain ⟨wa, hwa⟩ : ∃ wa, wa = W.setCell ⟨w.heap.size, 2, none⟩ (.int .u32 y) := ⟨_, rfl⟩
  rw [← hwa]
  have BA0 := B0.put 2 (.int .u32 y)
  have hO := OnlyB.set W w.heap.size 2 (.int .u32 y)
  rw [← hwa] at BA0 hO
  clear hwa f2
  have BA := BlkV.fit BA0 (m := [.int .i64 t.sp, .int .i64 t.dp, .int .u32 y, .int .u32 t.ak, .int .i64 t.fl, .int .i64 t.wi, .int .i64 t.ur, .slice t.Ao t.no t.co, .slice t.Ab t.nb t.cb]) rfl
  have B1a := B1.only hO (by omega)
  have B2a := B2.only hO (by omega)
  have hba := hO.bel (Nat.le_refl _) hbW
  have hsa := hO.size
  have HSA := Lib.hid hsa
  have HOQ := Lib.hid (HOP.out wa hO)
  clear B0 B1 B2 c2 d0 HOP hO BA0 hsa
  go_wp2_with (first | (refine wpList_ldB 26 _ _ (by with_reducible rfl) rfl (by rfl) BA Try.underlying26 rfl (tcp_size (by rfl)) ?_) | (refine wpList_ldB 28 _ _ (by with_reducible rfl) rfl (by rfl) B1a Try.underlying28 rfl (shift_size (by rfl)) ?_))
  refine HOQ.out.mono ?_
  rintro e w1 ⟨hb1, u, rfl, hu, k1, k2, k3, k4, k5, k6, k7, k8, k9⟩
  have B2b := B2a.below hb1
  have hs1 := hb1.size
  have hs1' : W.heap.size ≤ w1.heap.size := by have := HSA.out; omega
  have HU := Lib.hid hu
  clear BA B1a B2a HOQ hu
  simp only [Tcp.T.cells]
  go_wp2_with (first | (refine wpList_stB 26 _ _ (by with_reducible rfl) rfl (by rfl) _ (by rfl) B2b (by rfl) (tcp_size (by rfl)) (by rfl) ?_; intro wM BM hM))
  obtain ⟨t0, t1, t2, t3, t4, t5, t6, t7, t8⟩ := cells9' BM
  have huM := Lib.hid ((HU.out.store B2b hM (by decide) (by decide)).weak (show w.heap.size ≤ _ by have := HSA.out; omega))
  exact bodyPost_ret (v := .agg #[.int .i64 u.sp, .int .i64 u.dp, .int .u32 u.sq, .int .u32 u.ak, .int .i64 u.fl, .int .i64 u.wi, .int .i64 u.ur, .slice u.Ao u.no u.co, .slice u.Ab u.nb u.cb]) (by simp [results, Try.results9, go_sem, t0, t1, t2, t3, t4, t5, t6, t7, t8]) rfl ⟨hM.bel (by omega) (bel_then hba hb1), u, rfl, huM.out, by rw [HQ.out]; simp only [Tcp.T.con, k1, k2, k3, k4, k5, k6, k7, k8, k9]⟩
end Go.Proofs.Ytklefgcackchiaa
