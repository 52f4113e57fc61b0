/- The walk of proxy.options (the loop). -/
import Derived.Test.YtklefgcackchiaaProxOptions
namespace Go.Proofs.Ytklefgcackchiaa
open Go.RowKit
set_option linter.unusedVariables false
set_option linter.unusedSimpArgs false
theorem own_new {w0 w1 : World} {base : Nat} {e : TypeId} {s n : Nat} {v : Value} {xs : List Value} {ob : Obj} (h : w0.ownsRow base e s v n xs) (ho : OnlyB w0.heap.size (w0.alloc ob) w1) : w1.ownsRow base e s v n xs :=
  (own_below h ((Below.refl _ _).alloc (Nat.le_refl _) ob)).kept ho.grown (by
    cases hb : v.ownBlock with
    | none => exact .inl rfl
    | some k => exact .inr (fun he => by
        injection he with he
        have := (h.lt k hb).2
        omega))
theorem BlkV.grownN {w w' : World} {g : Nat} {T : TypeId} {l : List Value} {r : Option Nat} (h : BlkV w g T l) (hg : w.grownBy w' r) (hne : ∀ k, r = some k → g ≠ k) : BlkV w' g T l := (hg.block g h.lt (fun e => hne g e.symm rfl)).trans h
theorem below_by {B : Nat} {a w w' : World} {r : Option Nat} (h : Below B a w) (hg : w.grownBy w' r) (hr : ∀ k, r = some k → B ≤ k) (hs : B ≤ w.heap.size) : Below B a w' :=
  h.grown hg hs hr
theorem own_nb {w w' : World} {base g : Nat} {e : TypeId} {s n : Nat} {v : Value} {xs : List Value} (h : w.ownsRow base e s v n xs) (ho : OnlyB g w w') (hb : ∀ k, v.ownBlock = some k → k ≠ g) : w'.ownsRow base e s v n xs :=
  h.kept ho.grown (by
    cases hv : v.ownBlock with
    | none => exact .inl rfl
    | some k => exact .inr (fun he => by
        injection he with he
        exact hb k hv he))
theorem own_cap {w : World} {base : Nat} {e : TypeId} {s n c : Nat} {A : Option Addr} {xs : List Value} (h : w.ownsRow base e s (.slice A n c) n xs) : n ≤ c ∧ c ≤ 9223372036854775807 := by
  rcases h.2 with ⟨hv, _⟩ | ⟨g, cap, cur, hv, hb, hg, h1, h2, _⟩
  · injection hv with h3 h4 h5
    omega
  · injection hv with h3 h4 h5
    unfold maxLen at h2
    omega
theorem opts_of_row {w : World} {base : Nat} {A : Option Addr} {c : Nat} {os : List Tcp.Opt} (h : w.ownsRow base 41 2 (.slice A os.length c) os.length (optCells os)) (ho : ∀ o ∈ os, o.own w base) : Tcp.OptsRd w A os.length os := by
  refine ⟨rfl, fun o hm => ⟨Rd.of_own (ho o hm).row, (ho o hm).isb, (ho o hm).nc, (ho o hm).cc, (ho o hm).k0, (ho o hm).k1⟩, fun hn => ?_⟩
  obtain ⟨g, rfl, _, hg, _, _⟩ := own_blk h hn
  refine ⟨g, 0, rfl, hg, fun j o hj => ?_⟩
  have hjl := (List.getElem?_eq_some_iff.1 hj).1
  obtain ⟨e0, e1⟩ := optCells_get os j o hj
  rw [Nat.zero_add]
  exact ⟨(h.cellAt (j * 2) (by omega)).trans e0, (h.cellAt (j * 2 + 1) (by omega)).trans e1⟩
theorem TOwn.ok {u : Tcp.T} {w : World} {base : Nat} (h : TOwn u w base) : u.ok w := by
  have h1 := own_cap h.row
  have h2 := own_cap h.body
  have h3 := h.row
  have e := h.len
  refine ⟨h.sq, h.ak, h.fl, h.wi, ?_, h1.1, h1.2, Rd.of_own h.body, h.isb, h2.1, h2.2⟩
  rw [← e] at h3 ⊢
  exact opts_of_row h3 h.opts
theorem cells9' {w : World} {g : Nat} {T : TypeId} {v0 v1 v2 v3 v4 v5 v6 v7 v8 : Value} (h : BlkV w g T [v0, v1, v2, v3, v4, v5, v6, v7, v8]) : w.cell? ⟨g, 0, none⟩ = some v0 ∧ w.cell? ⟨g, 1, none⟩ = some v1 ∧ w.cell? ⟨g, 2, none⟩ = some v2 ∧ w.cell? ⟨g, 3, none⟩ = some v3 ∧ w.cell? ⟨g, 4, none⟩ = some v4 ∧ w.cell? ⟨g, 5, none⟩ = some v5 ∧ w.cell? ⟨g, 6, none⟩ = some v6 ∧ w.cell? ⟨g, 7, none⟩ = some v7 ∧ w.cell? ⟨g, 8, none⟩ = some v8 :=
  ⟨h.cell rfl, h.cell rfl, h.cell rfl, h.cell rfl, h.cell rfl, h.cell rfl, h.cell rfl, h.cell rfl, h.cell rfl⟩
set_option maxHeartbeats 8000000 in
theorem poptions_spec (f : Nat) (shv : Value) (F : Prox.O → Prox.O) (sp dp sq ak fl wi ur : Int) (Ao : Option Addr) (no co : Nat) (Ab : Option Addr) (nb cb : Nat) (opts : List Tcp.Opt) (body : List Int) (w : World) (ht : (⟨sp, dp, sq, ak, fl, wi, ur, Ao, no, co, Ab, nb, cb, opts, body⟩ : Tcp.T).ok w) (hno : no ≤ 60) (hdat : ∀ o ∈ opts, o.n ≤ 300) (hnb : nb ≤ 3000)
    (eg : ∀ args w, (callFunc f args).run Try.prog w = .ok (.enter f args) w) (hc : Change f shv F) (hlen : ∀ o, (F o).2.length = o.2.length ∧ (F o).1 = o.1) (hFB : ∀ o : Prox.O, isB o.2 → isB (F o).2) :
    Calls Try.prog 16 #[.agg #[.int .i64 sp, .int .i64 dp, .int .u32 sq, .int .u32 ak, .int .i64 fl, .int .i64 wi, .int .i64 ur, .slice Ao no co, .slice Ab nb cb], .func (.func f) #[shv] #[]] w (OptsR F ⟨sp, dp, sq, ak, fl, wi, ur, Ao, no, co, Ab, nb, cb, opts, body⟩ w) := by
  obtain ⟨W, hW⟩ : ∃ W, W = (w.alloc (.cells #[.int .i64 sp, .int .i64 dp, .int .u32 sq, .int .u32 ak, .int .i64 fl, .int .i64 wi, .int .i64 ur, .slice Ao no co, .slice Ab nb cb] 26)).alloc (.cells #[.int .i64 0, .int .i64 0, .int .u32 0, .int .u32 0, .int .i64 0, .int .i64 0, .int .i64 0, .slice none 0 0, .slice none 0 0] 26) := ⟨_, rfl⟩
  have hbW : Below w.heap.size w W := by rw [hW]; exact ((Below.refl _ _).alloc (Nat.le_refl _) _).alloc (by simp) _
  have hWs : w.heap.size + 1 < W.heap.size := by rw [hW]; simp
  have B0 : BlkV W w.heap.size 26 [.int .i64 sp, .int .i64 dp, .int .u32 sq, .int .u32 ak, .int .i64 fl, .int .i64 wi, .int .i64 ur, .slice Ao no co, .slice Ab nb cb] := by rw [hW]; exact (BlkV.new w _ _).alloc _
  have B1 : BlkV W (w.heap.size + 1) 26 [.int .i64 0, .int .i64 0, .int .u32 0, .int .u32 0, .int .i64 0, .int .i64 0, .int .i64 0, .slice none 0 0, .slice none 0 0] := by rw [hW]; exact BlkV.new_at (w.alloc (.cells #[.int .i64 sp, .int .i64 dp, .int .u32 sq, .int .u32 ak, .int .i64 fl, .int .i64 wi, .int .i64 ur, .slice Ao no co, .slice Ab nb cb] 26)) _ _ (by simp)
  have HTB : Hid (Rd W 1 Ab nb (bs body) ∧ isB body) := Lib.hid ⟨ht.body.below hbW, ht.isb⟩
  have HTU : Hid ((0 ≤ sq ∧ sq ≤ 4294967295) ∧ (0 ≤ ak ∧ ak ≤ 4294967295) ∧ (-9223372036854775808 ≤ fl ∧ fl ≤ 9223372036854775807) ∧ (-9223372036854775808 ≤ wi ∧ wi ≤ 9223372036854775807)) := Lib.hid ⟨ht.sq, ht.ak, ht.fl, ht.wi⟩
  have HC := Lib.hid hc
  have HD := Lib.hid hdat
  have HLEN := Lib.hid hlen
  have HFB := Lib.hid hFB
  have c7 := B0.cell (i := 7) rfl
  have hn63 : (no : Int) ≤ 9223372036854775807 := by omega
  have HO0 : Hid (Tcp.OptsRd W Ao no opts) := Lib.hid (ht.opts.below hbW)
  clear ht hc hdat hlen hFB
  go_enter Try.func16, Try.ntmps16
  go_upto_region 1 with (fail)
  rw [← hW]
  clear hW
  go_wp2_with fail
  clear c7
  go_loopg [5, 7, 11] no (fun g s5 _ s11 wx => ∃ (i : Nat) (os : List Tcp.Opt) (A5 : Option Addr) (c5 : Nat), i + g = no ∧ s11 = .int .i64 i ∧ s5 = .slice A5 i c5 ∧ wx.ownsRow W.heap.size 41 2 (.slice A5 i c5) i (optCells os) ∧ os.length = i ∧ Hid (∀ o ∈ os, o.own wx W.heap.size) ∧ Hid (os.map Tcp.Opt.con = ((opts.take i).map Tcp.Opt.con).map F) ∧ BlkV wx w.heap.size 26 [.int .i64 sp, .int .i64 dp, .int .u32 sq, .int .u32 ak, .int .i64 fl, .int .i64 wi, .int .i64 ur, .slice Ao no co, .slice Ab nb cb] ∧ BlkV wx (w.heap.size + 1) 26 [.int .i64 0, .int .i64 0, .int .u32 0, .int .u32 0, .int .i64 0, .int .i64 0, .int .i64 0, .slice none 0 0, .slice none 0 0] ∧ Below W.heap.size W wx)
  case atStart => exact ⟨0, [], none, 0, by omega, rfl, rfl, World.ownsRow_nil _ _ _ _, rfl, Lib.hid (fun o ho => by cases ho), Lib.hid (by simp), B0, B1, Below.refl _ _⟩
  case round =>
    obtain ⟨i, os, A5, c5, hig, rfl, rfl, hrow, hol, hown, hcon, B0x, B1x, hbx⟩ := hrel
    have HROW := Lib.hid hrow
    have HOL := Lib.hid hol
    clear hrow hol B0 B1
    cases gk with
    | zero =>
      have hin : i = no := by omega
      have hiz : ¬ (i : Int) < (no : Int) := by omega
      have c8 := B0x.cell (i := 8) rfl
      have HCL := Lib.hid (bytes_clone Ab nb cb body wr (HTB.out.1.below hbx) (by omega))
      have hsx := hbx.size
      have HIN := Lib.hid hin
      clear HC HD hin
      go_wp2_with fail
      refine HCL.out.mono ?_
      rintro e wb ⟨A8, c8', rfl, ownb, hbb⟩
      have B0b := B0x.below hbb
      have B1b := B1x.below hbb
      have R2 := own_below HROW.out hbb
      have OWN2 : Hid (∀ o ∈ os, o.own wb W.heap.size) := Lib.hid fun o hm => (hown.out o hm).below hbb
      have hb2 := bel_then hbx hbb
      have hsb := hbb.size
      clear c8 HCL B0x B1x HROW hown hbx
      go_upto_region 10 with (first | (refine wpList_stF 23 _ _ 7 (.slice A5 i c5) rfl (by with_reducible rfl) rfl (by rfl) (by rfl) B0b (by simp) (by kernel_rfl) rfl ?_; intro wc BC hO) | (refine wpList_stF 24 _ _ 8 (.slice A8 nb c8') rfl (by with_reducible rfl) rfl (by rfl) (by rfl) BC (by simp) (by kernel_rfl) rfl ?_; intro wd BD0 hP))
      have BD := BlkV.fit BD0 (m := [.int .i64 sp, .int .i64 dp, .int .u32 sq, .int .u32 ak, .int .i64 fl, .int .i64 wi, .int .i64 ur, .slice A5 i c5, .slice A8 nb c8']) rfl
      have B1d := (B1b.only hO (by omega)).only hP (by omega)
      have R4 := own_st (own_st R2 B0b hO (by decide)) BC hP (by decide)
      have OWN4 : Hid (∀ o ∈ os, o.own wd W.heap.size) := Lib.hid fun o hm => ((OWN2.out o hm).store B0b hO (by decide)).store BC hP (by decide)
      have ownd := own_st (own_st ownb B0b hO (by decide)) BC hP (by decide)
      have hb4 : Below w.heap.size w wd := hP.bel (Nat.le_refl _) (hO.bel (Nat.le_refl _) (bel_then hbW hb2))
      clear BC BD0 hO hP B0b B1b R2 OWN2 ownb hb2 hsb
      go_wp2_with (first | (refine wpList_ldB 26 _ _ (by with_reducible rfl) rfl (by rfl) BD Try.underlying26 rfl (tcp_size (by rfl)) ?_) | (refine wpList_stB 26 _ _ (by with_reducible rfl) rfl (by rfl) _ (by rfl) B1d (by rfl) (tcp_size (by rfl)) (by rfl) ?_; intro wM BM hM))
      obtain ⟨t0, t1, t2, t3, t4, t5, t6, t7, t8⟩ := cells9' BM
      have R5 := own_st R4 B1d hM (by decide)
      have OWN5 : Hid (∀ o ∈ os, o.own wM W.heap.size) := Lib.hid fun o hm => (OWN4.out o hm).store B1d hM (by decide)
      have own5 := own_st ownd B1d hM (by decide)
      have hl := HOL.out
      have hin := HIN.out
      subst hin
      have hfull : opts.take i = opts := List.take_of_length_le (by have := HO0.out.1; omega)
      subst hl
      exact bodyPost_ret (v := .agg #[.int .i64 sp, .int .i64 dp, .int .u32 sq, .int .u32 ak, .int .i64 fl, .int .i64 wi, .int .i64 ur, .slice A5 os.length c5, .slice A8 nb c8']) (by simp [results, Try.results16, go_sem, t0, t1, t2, t3, t4, t5, t6, t7, t8]) rfl ⟨hM.bel (by omega) hb4, ⟨sp, dp, sq, ak, fl, wi, ur, A5, os.length, c5, A8, nb, c8', os, body⟩, rfl, TOwn.weak (base := W.heap.size) ⟨R5, OWN5.out, rfl, own_weak own5 hsx, HTB.out.2, HTU.out.1, HTU.out.2.1, HTU.out.2.2.1, HTU.out.2.2.2⟩ (by omega), rfl, rfl, rfl, rfl, rfl, rfl, rfl, by rw [hcon.out, hfull], rfl⟩
    | succ g2 =>
      have hi : i < no := by omega
      have hiz : (i : Int) < (no : Int) := by omega
      have hOR := HO0.out.below hbx
      obtain ⟨o, ho⟩ : ∃ o, opts[i]? = some o := ⟨_, List.getElem?_eq_getElem (by rw [hOR.1]; omega)⟩
      have hmem := List.mem_of_getElem? ho
      have hok := hOR.2.1 o hmem
      have ho300 := HD.out o hmem
      obtain ⟨b, off, hAo, hbl, hcell⟩ := hOR.2.2 (by omega)
      obtain ⟨q0, q1⟩ := hcell i o ho
      have HG := Lib.hid ho
      have HOKH := Lib.hid hok
      obtain ⟨ok, oA, on, oc, od⟩ := o
      simp only at q0 q1 ho300
      clear hcell hOR ho hmem hok
      subst hAo
      have hsx := hbx.size
      have hB3 := @BlkV.new wr 41 [.int .i64 0, .slice none 0 0]
      go_upto_region 5 with (first | (refine wpList_stB 41 _ _ (by with_reducible rfl) rfl (by rfl) _ (by rfl) (by exact hB3) (by rfl) (opt_size (by rfl)) (by rfl) ?_; intro wa BA hO))
      have R1 := own_new HROW.out hO
      have hrb : Hid (∀ k, (Value.slice A5 i c5).ownBlock = some k → k < wr.heap.size) := Lib.hid fun k hk => (HROW.out.lt k hk).2
      have OWN1 : Hid (∀ o ∈ os, o.own wa W.heap.size) := Lib.hid fun o hm => ((hown.out o hm).below ((Below.refl _ _).alloc (Nat.le_refl _) _)).store hB3 hO (by decide)
      have B0a := (B0x.alloc (.cells #[.int .i64 0, .slice none 0 0] 41)).only hO (by omega)
      have B1a := (B1x.alloc (.cells #[.int .i64 0, .slice none 0 0] 41)).only hO (by omega)
      have hba := hO.bel hsx (bel_a hbx (.cells #[.int .i64 0, .slice none 0 0] 41))
      have hsa : wr.heap.size < wa.heap.size := by rw [hO.size]; simp
      have hra : Below wr.heap.size wr wa := hO.bel (Nat.le_refl _) ((Below.refl _ wr).alloc (Nat.le_refl _) (.cells #[.int .i64 0, .slice none 0 0] 41))
      have hRo : Hid (Rd wa 1 oA on (bs od)) := Lib.hid (HOKH.out.1.below hra)
      have hOKs : Hid (isB od ∧ -9223372036854775808 ≤ ok ∧ ok ≤ 9223372036854775807) := Lib.hid ⟨HOKH.out.2.1, HOKH.out.2.2.2.2.1, HOKH.out.2.2.2.2.2⟩
      have c1 := BA.cell (i := 1) rfl
      have HCL := Lib.hid (bytes_clone oA on oc od wa hRo.out (by omega))
      clear hB3 hO hown q0 q1 B0x B1x HROW HOKH hra hbx
      go_wp2_with fail
      refine HCL.out.mono ?_
      rintro e wb ⟨A', c', rfl, ownb, hbb⟩
      have BAb := BA.below hbb
      have R2 := own_below R1 hbb
      have B0b := B0a.below hbb
      have B1b := B1a.below hbb
      have hb2 := bel_then hba hbb
      have hsb := hbb.size
      clear BA c1 HCL R1 B0a B1a
      go_upto_region 6 with (first | (refine wpList_stF 24 _ _ 1 (.slice A' on c') rfl (by with_reducible rfl) rfl (by rfl) (by rfl) BAb (by simp) (by kernel_rfl) rfl ?_; intro wc BC0 hO))
      have BC := BlkV.fit BC0 (m := [.int .i64 ok, .slice A' on c']) rfl
      have hlen0 : od.length = on := by have := ownb.1; rw [bs_len] at this; omega
      have ownc := own_st ownb BAb hO (by decide)
      have R3 := own_nb R2 hO (fun k hk => by have := hrb.out k hk; omega)
      have OWN3 : Hid (∀ o ∈ os, o.own wc W.heap.size) := Lib.hid fun o hm => ((OWN1.out o hm).below hbb).store BAb hO (by decide)
      have B0c := B0b.only hO (by omega)
      have B1c := B1b.only hO (by omega)
      have hb3 := hO.bel hsx hb2
      have hsc : wb.heap.size = wc.heap.size := hO.size.symm
      have HSC := Lib.hid hsc
      have HCH := Lib.hid (HC.out wa.heap.size wc ok A' on c' od ownc hOKs.out.1 (by omega))
      clear BAb BC0 hO R2 B0b B1b hb2 hsc ownb
      go_upto_region 7 with (first | (refine wpList_ldB 41 _ _ (by with_reducible rfl) rfl (by rfl) BC Try.underlying41 rfl (opt_size (by rfl)) ?_) | (go_at_fn f; refine HCH.out.mono ?_; rintro e wd ⟨rfl, ownd, hgd⟩))
      have hoc := fun k hk => (ownc.lt k hk).1
      have BD := BC.grownN hgd (fun k hk => by have := hoc k hk; omega)
      have R4 := R3.kept hgd (own_apart2 R3 ownc (by decide))
      have OWN4 : Hid (∀ o ∈ os, o.own wd W.heap.size) := Lib.hid fun o hm => (OWN3.out o hm).turn hgd (by
        cases hv : (Value.slice o.A o.n o.c).ownBlock with
        | none => exact .inl rfl
        | some k =>
          refine .inr (fun he => ?_)
          have h1 := ((OWN1.out o hm).row.lt k hv).2
          have h2 := hoc k he.symm
          omega)
      have NEW : Hid (Tcp.Opt.own ⟨ok, A', on, c', (F (ok, od)).2⟩ wd W.heap.size) := Lib.hid ⟨own_weak ownd (by omega), HFB.out _ hOKs.out.1, (own_cap ownd).1, (own_cap ownd).2, hOKs.out.2.1, hOKs.out.2.2⟩
      have B0d := B0c.grownN hgd (fun k hk => by have := hoc k hk; omega)
      have B1d := B1c.grownN hgd (fun k hk => by have := hoc k hk; omega)
      have hb4 := below_by hb3 hgd (fun k hk => by have := hoc k hk; omega) (by have := HSC.out; omega)
      have hb4s := hb4.size
      have R4H := Lib.hid R4
      clear BC R3 OWN3 OWN1 B0c B1c hb3 ownc ownd hgd hoc HCH R4
      go_wp2_with (first | (refine wpList_ldB 41 _ _ (by with_reducible rfl) rfl (by rfl) BD Try.underlying41 rfl (opt_size (by rfl)) ?_) | (at_builtin; refine wpList_app _ rfl (.tmp 22) (.tmp 24) 23 rfl W (by exact hb4.alloc hb4s _) 41 (.agg #[.int .i64 0, .slice none 0 0]) 2 32 Try.underlying23 opt_info rfl (by decide) (.slice A5 i c5) i (optCells os) rfl (by exact R4H.out.alloc _) (some ⟨_, 0, none⟩) 1 1 [.int .i64 ok, .slice A' on c'] rfl (by exact rd_pair _ _ _ _) (one_opt _ _ _ _) (by unfold maxLen; omega) (by omega) ?_; intro A6 c6 we R6 hbe hge hat))
      have B0e := (B0d.alloc (.cells #[.int .i64 ok, .slice A' on c'] 41)).grownN hge (fun k hk => by have := (R4H.out.lt k hk).1; omega)
      have B1e := (B1d.alloc (.cells #[.int .i64 ok, .slice A' on c'] 41)).grownN hge (fun k hk => by have := (R4H.out.lt k hk).1; omega)
      have hal := (Below.refl wd.heap.size wd).alloc (Nat.le_refl _) (.cells #[.int .i64 ok, .slice A' on c'] 41)
      have OWN5 : Hid (∀ o ∈ os ++ [(⟨ok, A', on, c', (F (ok, od)).2⟩ : Tcp.Opt)], o.own we W.heap.size) := Lib.hid fun o hm => by
        rcases List.mem_append.1 hm with h | h
        · exact ((OWN4.out o h).below hal).app (R4H.out.alloc _) hge
        · rw [List.mem_singleton] at h
          subst h
          exact (NEW.out.below hal).app (R4H.out.alloc _) hge
      have CON : Hid ((os ++ [(⟨ok, A', on, c', (F (ok, od)).2⟩ : Tcp.Opt)]).map Tcp.Opt.con = ((opts.take (i + 1)).map Tcp.Opt.con).map F) := Lib.hid (by
        rw [List.take_add_one, HG.out, List.map_append, List.map_append, List.map_append, hcon.out]
        simp only [List.map_cons, List.map_nil, Tcp.Opt.con]
        congr 2
        exact Prod.ext (HLEN.out (ok, od)).2.symm rfl)
      have R7 : we.ownsRow W.heap.size 41 2 (.slice A6 (i + 1) c6) (i + 1) (optCells (os ++ [(⟨ok, A', on, c', (F (ok, od)).2⟩ : Tcp.Opt)])) := by rw [optCells_snoc]; exact R6
      have LEN := HOL.out
      clear BD OWN4 NEW B0d B1d hb4 R4H R6 hge hat hal hcon HOL
      go_roundg g2
      case measure => omega
      case rel => exact ⟨i + 1, os ++ [(⟨ok, A', on, c', (F (ok, od)).2⟩ : Tcp.Opt)], A6, c6, by omega, by go_num, rfl, R7, by simp [LEN], OWN5, CON, B0e, B1e, hbe⟩
end Go.Proofs.Ytklefgcackchiaa
