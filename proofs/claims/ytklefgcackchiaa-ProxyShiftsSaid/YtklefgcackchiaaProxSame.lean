/- The walk of tcp.Same, at two segments that say the same. -/
import Derived.Test.YtklefgcackchiaaProxTo
import Derived.Test.YtklefgcackchiaaBytesE
namespace Go.Proofs.Ytklefgcackchiaa
open Go.RowKit
set_option linter.unusedVariables false
set_option linter.unusedSimpArgs false
set_option maxHeartbeats 1000000 in
theorem psame1_spec (k : Int) (A B : Option Addr) (n c m d : Nat) (l : List Int) (w : World) (h1 : Rd w 1 A n (bs l)) (h2 : Rd w 1 B m (bs l)) (hB : isB l) :
    Calls Try.prog 15 #[.agg #[.int .i64 k, .slice A n c], .agg #[.int .i64 k, .slice B m d]] w fun e w' => e = .returned (.bool true) ∧ Below w.heap.size w w' := by
  obtain ⟨W, hW⟩ : ∃ W, W = (w.alloc (.cells #[.int .i64 k, .slice A n c] 41)).alloc (.cells #[.int .i64 k, .slice B m d] 41) := ⟨_, rfl⟩
  have hbW : Below w.heap.size w W := by rw [hW]; exact ((Below.refl _ _).alloc (Nat.le_refl _) _).alloc (by simp) _
  have B0 : BlkV W w.heap.size 41 [.int .i64 k, .slice A n c] := by rw [hW]; exact (BlkV.new w _ _).alloc _
  have B1 : BlkV W (w.heap.size + 1) 41 [.int .i64 k, .slice B m d] := by rw [hW]; exact BlkV.new_at (w.alloc (.cells #[.int .i64 k, .slice A n c] 41)) _ _ (by simp)
  have HE := Lib.hid (bytes_equal A B n c m d l l W (h1.below hbW) (h2.below hbW) hB hB)
  have c0 := B0.cell (i := 0) rfl
  have c1 := B0.cell (i := 1) rfl
  have d0 := B1.cell (i := 0) rfl
  have d1 := B1.cell (i := 1) rfl
  clear h1 h2 B0 B1
  go_enter Try.func15, Try.ntmps15
  go_upto_region 1 with (fail)
  rw [← hW]
  clear hW
  go_wp2_with fail
  refine HE.out.mono ?_
  rintro e w' ⟨rfl, rfl⟩
  go_wp2_with fail
  go_ret
  exact ⟨ret_bool (by simp), hbW⟩
set_option maxHeartbeats 4000000 in
theorem pequalfunc_spec (A B : Option Addr) (n c d : Nat) (l1 l2 : List Tcp.Opt) (w : World) (h1 : Tcp.OptsRd w A n l1) (h2 : Tcp.OptsRd w B n l2) (he : l1.map Tcp.Opt.con = l2.map Tcp.Opt.con) (hn : n ≤ 60) :
    Calls Try.prog 14 #[.slice A n c, .slice B n d, .func (.func 15) #[] #[]] w fun e w' => e = .returned (.bool true) ∧ Below w.heap.size w w' := by
  have H1 := Lib.hid h1
  have H2 := Lib.hid h2
  have HE := Lib.hid he
  have EG : ∀ args w, (callFunc 15 args).run Try.prog w = .ok (.enter 15 args) w := enters_of Try.func15 (by kernel_rfl) rfl
  have hn63 : (n : Int) ≤ 9223372036854775807 := by omega
  clear h1 h2 he
  go_enter Try.func14, Try.ntmps14
  go_wp2_with fail
  go_loopg [7, 8, 9, 17] n (fun g _ _ _ s17 wx => ∃ i : Nat, i + g = n ∧ s17 = .int .i64 i ∧ Below w.heap.size w wx)
  case atStart => exact ⟨0, by omega, rfl, Below.refl _ _⟩
  case round =>
    obtain ⟨i, hig, rfl, hbx⟩ := hrel
    cases gk with
    | zero =>
      have hiz : ¬ (i : Int) < (n : Int) := by omega
      go_wp2_with fail
      go_ret
      exact ⟨rfl, hbx⟩
    | succ g2 =>
      have hi : i < n := by omega
      have hiz : (i : Int) < (n : Int) := by omega
      have hO1 := H1.out.below hbx
      have hO2 := H2.out.below hbx
      obtain ⟨o, ho⟩ : ∃ o, l1[i]? = some o := ⟨_, List.getElem?_eq_getElem (by rw [hO1.1]; omega)⟩
      obtain ⟨p, hp⟩ : ∃ p, l2[i]? = some p := ⟨_, List.getElem?_eq_getElem (by rw [hO2.1]; omega)⟩
      have hop : o.con = p.con := by
        have h := congrArg (fun l : List Prox.O => l[i]?) HE.out
        simp only [List.getElem?_map, ho, hp, Option.map_some, Option.some.injEq] at h
        exact h
      have hok1 := hO1.2.1 o (List.mem_of_getElem? ho)
      have hok2 := hO2.2.1 p (List.mem_of_getElem? hp)
      obtain ⟨b1, f1, hA1, hl1, hc1⟩ := hO1.2.2 (by omega)
      obtain ⟨b2, f2, hA2, hl2, hc2⟩ := hO2.2.2 (by omega)
      obtain ⟨q0, q1⟩ := hc1 i o ho
      obtain ⟨p0, p1⟩ := hc2 i p hp
      obtain ⟨ok, oA, on, oc, od⟩ := o
      obtain ⟨pk, pA, pn, pc, pd⟩ := p
      simp only [Tcp.Opt.con, Prod.mk.injEq] at hop
      obtain ⟨rfl, rfl⟩ := hop
      simp only at q0 q1 p0 p1
      have R1 : Hid (Rd wr 1 oA on (bs od) ∧ isB od) := Lib.hid ⟨hok1.1, hok1.2.1⟩
      have R2 : Hid (Rd wr 1 pA pn (bs od)) := Lib.hid hok2.1
      have HS : Hid (∀ w', Below wr.heap.size wr w' → Calls Try.prog 15 #[.agg #[.int .i64 ok, .slice oA on oc], .agg #[.int .i64 ok, .slice pA pn pc]] w' fun e w'' => e = .returned (.bool true) ∧ Below w'.heap.size w' w'') := Lib.hid fun w' hb => psame1_spec ok oA pA on oc pn pc od w' (R1.out.1.below hb) (R2.out.below hb) R1.out.2
      clear hO1 hO2 hok1 hok2 hc1 hc2 ho hp HE R1 R2
      subst hA1
      subst hA2
      have hl1' : b1 < wr.heap.size := hl1
      go_upto_region 7 with (fail)
      go_wp2_with (go_at_fn 15; refine (HS.out _ (bel_a (bel_a (Below.refl _ _) _) _)).mono ?_; rintro e w' ⟨rfl, hb'⟩)
      have hbe := bel_then hbx (bel_then (bel_a (bel_a (Below.refl wr.heap.size wr) (.cells #[.int .i64 ok, .slice oA on oc] 41)) (.cells #[.int .i64 ok, .slice pA pn pc] 41)) hb')
      clear HS q0 q1 p0 p1 hb'
      go_roundg g2
      case measure => omega
      case rel => exact ⟨i + 1, by omega, by go_num, hbe⟩
set_option maxHeartbeats 4000000 in
theorem psame0_spec (t u : Tcp.T) (w : World) (ht : t.ok w) (hu : u.ok w) (ho : t.opts.map Tcp.Opt.con = u.opts.map Tcp.Opt.con) (hb : t.body = u.body) (hn : t.no ≤ 60) :
    Calls Try.prog 7 #[.agg #[.int .i64 t.sp, .int .i64 t.dp, .int .u32 t.sq, .int .u32 t.ak, .int .i64 t.fl, .int .i64 t.wi, .int .i64 t.ur, .slice t.Ao t.no t.co, .slice t.Ab t.nb t.cb], .agg #[.int .i64 t.sp, .int .i64 t.dp, .int .u32 t.sq, .int .u32 t.ak, .int .i64 t.fl, .int .i64 t.wi, .int .i64 t.ur, .slice u.Ao u.no u.co, .slice u.Ab u.nb u.cb]] w fun e w' => e = .returned (.bool true) ∧ Below w.heap.size w w' := by
  obtain ⟨W, hW⟩ : ∃ W, W = (w.alloc (.cells #[.int .i64 t.sp, .int .i64 t.dp, .int .u32 t.sq, .int .u32 t.ak, .int .i64 t.fl, .int .i64 t.wi, .int .i64 t.ur, .slice t.Ao t.no t.co, .slice t.Ab t.nb t.cb] 26)).alloc (.cells #[.int .i64 t.sp, .int .i64 t.dp, .int .u32 t.sq, .int .u32 t.ak, .int .i64 t.fl, .int .i64 t.wi, .int .i64 t.ur, .slice u.Ao u.no u.co, .slice u.Ab u.nb u.cb] 26) := ⟨_, rfl⟩
  have hbW : Below w.heap.size w W := by rw [hW]; exact ((Below.refl _ _).alloc (Nat.le_refl _) _).alloc (by simp) _
  have B0 : BlkV W w.heap.size 26 [.int .i64 t.sp, .int .i64 t.dp, .int .u32 t.sq, .int .u32 t.ak, .int .i64 t.fl, .int .i64 t.wi, .int .i64 t.ur, .slice t.Ao t.no t.co, .slice t.Ab t.nb t.cb] := by rw [hW]; exact (BlkV.new w _ _).alloc _
  have B1 : BlkV W (w.heap.size + 1) 26 [.int .i64 t.sp, .int .i64 t.dp, .int .u32 t.sq, .int .u32 t.ak, .int .i64 t.fl, .int .i64 t.wi, .int .i64 t.ur, .slice u.Ao u.no u.co, .slice u.Ab u.nb u.cb] := by rw [hW]; exact BlkV.new_at (w.alloc (.cells #[.int .i64 t.sp, .int .i64 t.dp, .int .u32 t.sq, .int .u32 t.ak, .int .i64 t.fl, .int .i64 t.wi, .int .i64 t.ur, .slice t.Ao t.no t.co, .slice t.Ab t.nb t.cb] 26)) _ _ (by simp)
  have hmo : u.no = t.no := by
    have h := congrArg List.length ho
    rw [List.length_map, List.length_map, ht.opts.1, hu.opts.1] at h
    exact h.symm
  have HE := Lib.hid (bytes_equal t.Ab u.Ab t.nb t.cb u.nb u.cb t.body u.body W (ht.body.below hbW) (hu.body.below hbW) ht.isb hu.isb)
  rw [show (t.body == u.body) = true by rw [hb]; simp] at HE
  have HF := Lib.hid (pequalfunc_spec t.Ao u.Ao t.no t.co u.co t.opts u.opts W (ht.opts.below hbW) (by rw [← hmo]; exact hu.opts.below hbW) ho hn)
  rw [hmo] at hW B1 ⊢
  obtain ⟨c0, c1, c2, c3, c4, c5, c6, c7, c8⟩ := cells9' B0
  obtain ⟨d0, d1, d2, d3, d4, d5, d6, d7, d8⟩ := cells9' B1
  clear B0 B1 hmo ht hu ho hb
  go_enter Try.func7, Try.ntmps7
  go_upto_region 1 with (fail)
  rw [← hW]
  clear hW
  go_wp2_with fail
  refine HE.out.mono ?_
  rintro e w' ⟨rfl, rfl⟩
  go_wp2_with fail
  refine HF.out.mono ?_
  rintro e w' ⟨rfl, hb'⟩
  go_wp2_with fail
  go_ret
  exact ⟨ret_bool (by simp), bel_then hbW hb'⟩
theorem psame_spec (t u : Tcp.T) (w : World) (ht : t.ok w) (hu : u.ok w) (h : t.con = u.con) (hs : t.con.small) :
    Calls Try.prog 7 #[.agg #[.int .i64 t.sp, .int .i64 t.dp, .int .u32 t.sq, .int .u32 t.ak, .int .i64 t.fl, .int .i64 t.wi, .int .i64 t.ur, .slice t.Ao t.no t.co, .slice t.Ab t.nb t.cb], .agg #[.int .i64 u.sp, .int .i64 u.dp, .int .u32 u.sq, .int .u32 u.ak, .int .i64 u.fl, .int .i64 u.wi, .int .i64 u.ur, .slice u.Ao u.no u.co, .slice u.Ab u.nb u.cb]] w fun e w' => e = .returned (.bool true) ∧ Below w.heap.size w w' := by
  have hsm := small_of ht hs
  simp only [Tcp.T.con, Prox.C.mk.injEq] at h
  obtain ⟨e1, e2, e3, e4, e5, e6, e7, e8, e9⟩ := h
  rw [← e1, ← e2, ← e3, ← e4, ← e5, ← e6, ← e7]
  exact psame0_spec t u w ht hu e8 e9 hsm.1
end Go.Proofs.Ytklefgcackchiaa
