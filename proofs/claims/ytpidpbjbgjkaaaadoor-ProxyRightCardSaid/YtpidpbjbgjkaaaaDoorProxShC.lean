/- The walk of casemateref24.Shifted, on the way to the client (printed by gen_shr.py). -/
import Derived.Test.YtpidpbjbgjkaaaaDoorJ9
namespace Go.Proofs.YtpidpbjbgjkaaaaDoor
open Go.RowKit
set_option maxRecDepth 8000
set_option linter.unusedVariables false
set_option linter.unusedSimpArgs false
set_option maxHeartbeats 16000000 in
theorem rshift_C (t : Tcp.T) (s st : Int) (w : World) (ht : t.ok w) (hsm : t.con.small) (h0 : 0 ≤ s) (h1 : s ≤ 4294967295) (h2 : 0 ≤ st) (h3 : st ≤ 4294967295) :
    Calls Tryd.prog 18 #[.agg #[.int .i64 t.sp, .int .i64 t.dp, .int .u32 t.sq, .int .u32 t.ak, .int .i64 t.fl, .int .i64 t.wi, .int .i64 t.ur, .slice t.Ao t.no t.co, .slice t.Ab t.nb t.cb], .agg #[.int .u32 s, .int .u32 st], .bool false] w (ShiftS (Prox.toC s st t.con) w) := by
  obtain ⟨hno, hdat, hnb⟩ := small_of ht hsm
  obtain ⟨sp, dp, sq, ak, fl, wi, ur, Ao, no, co, Ab, nb, cb, opts, body⟩ := t
  simp only at hno hdat hnb
  show Calls _ _ #[.agg #[.int .i64 sp, .int .i64 dp, .int .u32 sq, .int .u32 ak, .int .i64 fl, .int .i64 wi, .int .i64 ur, .slice Ao no co, .slice Ab nb cb], .agg #[.int .u32 s, .int .u32 st], .bool false] w _
  obtain ⟨W, hW⟩ : ∃ W, W = ((w.alloc (.cells #[.int .i64 sp, .int .i64 dp, .int .u32 sq, .int .u32 ak, .int .i64 fl, .int .i64 wi, .int .i64 ur, .slice Ao no co, .slice Ab nb cb] 29)).alloc (.cells #[.int .u32 s, .int .u32 st] 31)).alloc (.cells #[.int .i64 0, .int .i64 0, .int .u32 0, .int .u32 0, .int .i64 0, .int .i64 0, .int .i64 0, .slice none 0 0, .slice none 0 0] 29) := ⟨_, rfl⟩
  have hbW : Below w.heap.size w W := (by rw [hW]; exact (((Below.refl _ _).alloc (Nat.le_refl _) _).alloc (by simp) _).alloc (by simp; omega) _)
  have hWs : w.heap.size + 2 < W.heap.size := (by rw [hW]; simp)
  have B0 : BlkV W w.heap.size 29 [.int .i64 sp, .int .i64 dp, .int .u32 sq, .int .u32 ak, .int .i64 fl, .int .i64 wi, .int .i64 ur, .slice Ao no co, .slice Ab nb cb] := (by rw [hW]; exact ((BlkV.new w _ _).alloc _).alloc _)
  have B1 : BlkV W (w.heap.size + 1) 31 [.int .u32 s, .int .u32 st] := (by rw [hW]; exact (BlkV.new_at (w.alloc (.cells #[.int .i64 sp, .int .i64 dp, .int .u32 sq, .int .u32 ak, .int .i64 fl, .int .i64 wi, .int .i64 ur, .slice Ao no co, .slice Ab nb cb] 29)) _ _ (by simp)).alloc _)
  have B2 : BlkV W (w.heap.size + 1 + 1) 29 [.int .i64 0, .int .i64 0, .int .u32 0, .int .u32 0, .int .i64 0, .int .i64 0, .int .i64 0, .slice none 0 0, .slice none 0 0] := (by rw [hW]; exact (BlkV.new_at ((w.alloc (.cells #[.int .i64 sp, .int .i64 dp, .int .u32 sq, .int .u32 ak, .int .i64 fl, .int .i64 wi, .int .i64 ur, .slice Ao no co, .slice Ab nb cb] 29)).alloc (.cells #[.int .u32 s, .int .u32 st] 31)) _ _ (by simp)))
  have HTU : Hid ((0 ≤ sq ∧ sq ≤ 4294967295) ∧ (0 ≤ ak ∧ ak ≤ 4294967295) ∧ (-9223372036854775808 ≤ fl ∧ fl ≤ 9223372036854775807) ∧ (-9223372036854775808 ≤ wi ∧ wi ≤ 9223372036854775807) ∧ Rd w 1 Ab nb (bs body) ∧ isB body ∧ nb ≤ cb ∧ cb ≤ 9223372036854775807) := Lib.hid ⟨ht.sq, ht.ak, ht.fl, ht.wi, ht.body, ht.isb, ht.nbc, ht.cbc⟩
  have HD := Lib.hid hdat
  have HOP := Lib.hid ht.opts
  obtain ⟨y, hy⟩ : ∃ y, (sq - s) % 4294967296 = y := ⟨_, rfl⟩
  have HYB : Hid (0 ≤ y ∧ y ≤ 4294967295) := Lib.hid (by omega)
  have HQ0 : Hid (Prox.toC s st (⟨sp, dp, sq, ak, fl, wi, ur, Ao, no, co, Ab, nb, cb, opts, body⟩ : Tcp.T).con = ⟨sp, dp, y, ak, fl, wi, ur, (opts.map Tcp.Opt.con).map (Prox.back ((-st) % 4294967296)), body⟩) := Lib.hid (by
    subst hy
    rfl)
  obtain ⟨ms, hms⟩ : ∃ ms, -s % 4294967296 = ms := ⟨_, rfl⟩
  have HON := Lib.hid (fun w => ron_spec sq ms w ht.sq.1 ht.sq.2 (by omega) (by omega))
  have hyy : (sq + ms) % 4294967296 = y := by omega
  simp only [hyy] at HON
  have c2 := B0.cell (i := 2) rfl
  have d0 := B1.cell (i := 0) rfl
  obtain ⟨mb, hmb⟩ : ∃ mb, (-st) % 4294967296 = mb := ⟨_, rfl⟩
  have HMB : Hid (0 ≤ mb ∧ mb ≤ 4294967295) := Lib.hid (by omega)
  rw [hmb] at HQ0
  rw [HQ0.out]
  clear ht hsm hdat hy hyy HQ0
  go_enter Tryd.func18, Tryd.ntmps18
  go_upto_region 1 with (fail)
  rw [← hW]
  clear hW
  have f2 := B0.unfrozen 2
  go_wp2_with fail
  refine (HON.out _).mono ?_
  rintro e w' ⟨rfl, rfl⟩
  go_upto_region 5 with fail
  obtain ⟨W1, hwa⟩ : ∃ W1, W1 = W.setCell ⟨w.heap.size, 2, none⟩ (.int .u32 y) := ⟨_, rfl⟩
  rw [← hwa]
  have BA0 := B0.put 2 (.int .u32 y)
  have hO := OnlyB.set W w.heap.size 2 (.int .u32 y)
  rw [← hwa] at BA0 hO
  clear hwa f2
  have B0c := BlkV.fit BA0 (m := [.int .i64 sp, .int .i64 dp, .int .u32 y, .int .u32 ak, .int .i64 fl, .int .i64 wi, .int .i64 ur, .slice Ao no co, .slice Ab nb cb]) rfl
  have B1c := B1.only hO (by omega)
  have B2c := B2.only hO (by omega)
  have hbW1 : Below w.heap.size w W1 := hO.bel (Nat.le_refl _) hbW
  have HSZ : Hid (W1.heap.size = W.heap.size) := Lib.hid hO.size
  have hWs1 : w.heap.size + 2 < W1.heap.size := by have := HSZ.out; omega
  have HO0 : Hid (Tcp.OptsRd W1 Ao no opts) := Lib.hid (HOP.out.below hbW1)
  clear B0 B1 B2 c2 d0 HON BA0 hO
  have hn63 : (no : Int) ≤ 9223372036854775807 := by omega
  have c7 := B0c.cell (i := 7) rfl
  go_wp2_with fail
  clear c7
  go_loopg [7, 8, 9, 10, 11] no (fun g s7 s8 _ _ _ wx => ∃ (i : Nat) (os : List Tcp.Opt) (A5 : Option Addr) (c5 : Nat), i + g = no ∧ s8 = .int .i64 i ∧ s7 = .slice A5 i c5 ∧ wx.ownsRow W1.heap.size 62 2 (.slice A5 i c5) i (optCells os) ∧ os.length = i ∧ Hid (∀ o ∈ os, OptX w W1 wx o) ∧ Hid (os.map Tcp.Opt.con = ((opts.take i).map Tcp.Opt.con).map (Prox.back mb)) ∧ BlkV wx w.heap.size 29 [.int .i64 sp, .int .i64 dp, .int .u32 y, .int .u32 ak, .int .i64 fl, .int .i64 wi, .int .i64 ur, .slice Ao no co, .slice Ab nb cb] ∧ BlkV wx (w.heap.size + 1) 31 [.int .u32 s, .int .u32 st] ∧ BlkV wx (w.heap.size + 1 + 1) 29 [.int .i64 0, .int .i64 0, .int .u32 0, .int .u32 0, .int .i64 0, .int .i64 0, .int .i64 0, .slice none 0 0, .slice none 0 0] ∧ Below W1.heap.size W1 wx)
  case atStart => exact ⟨0, [], none, 0, by omega, rfl, rfl, World.ownsRow_nil _ _ _ _, rfl, Lib.hid (fun o ho => by cases ho), Lib.hid (by simp), B0c, B1c, B2c, Below.refl _ _⟩
  case round =>
    obtain ⟨i, os, A5, c5, hig, rfl, rfl, hrow, hol, hown, hcon, B0x, B1x, B2x, hbx⟩ := hrel
    have HROW := Lib.hid hrow
    have HOL := Lib.hid hol
    have c7x := B0x.cell (i := 7) rfl
    clear hrow hol B0c B1c B2c
    cases gk with
    | zero =>
      have hin : i = no := by omega
      have hiz : ¬ (i : Int) < (no : Int) := by omega
      have HIN := Lib.hid hin
      clear hin
      go_upto_region 21 with (first | (refine wpList_stF 26 _ _ 7 (.slice A5 i c5) rfl (by with_reducible rfl) rfl (by rfl) (by rfl) B0x (by simp) (by kernel_rfl) rfl ?_; intro wd BD0 hO))
      have BD := BlkV.fit BD0 (m := [.int .i64 sp, .int .i64 dp, .int .u32 y, .int .u32 ak, .int .i64 fl, .int .i64 wi, .int .i64 ur, .slice A5 i c5, .slice Ab nb cb]) rfl
      have B2d := B2x.only hO (by omega)
      have R4 := own_st HROW.out B0x hO (by decide)
      have OWN4 : Hid (∀ o ∈ os, OptX w W1 wd o) := Lib.hid fun o hm => (hown.out o hm).store B0x hO (by decide)
      have hb4 : Below w.heap.size w wd := hO.bel (Nat.le_refl _) (bel_then hbW1 hbx)
      have hsd := hO.size
      clear BD0 B1x c7x hown HROW
      go_wp2_with (first | (refine wpList_ldB 29 _ _ (by with_reducible rfl) rfl (by rfl) BD Tryd.underlying29 rfl (tcp_size (by rfl)) ?_) | (refine wpList_stB 29 _ _ (by with_reducible rfl) rfl (by rfl) _ (by rfl) B2d (by rfl) (tcp_size (by rfl)) (by rfl) ?_; intro wM BM hM))
      obtain ⟨t0, t1, t2, t3, t4, t5, t6, t7, t8⟩ := cells9' BM
      have R5 := own_st R4 B2d hM (by decide)
      have OWN5 : Hid (∀ o ∈ os, OptX w W1 wM o) := Lib.hid fun o hm => (OWN4.out o hm).store B2d hM (by decide)
      have hl := HOL.out
      have hin := HIN.out
      subst hin
      have hfull : opts.take i = opts := List.take_of_length_le (by have := HO0.out.1; omega)
      subst hl
      have hbM : Below w.heap.size w wM := hM.bel (by omega) hb4
      have hcap := own_cap R5
      exact bodyPost_ret (v := .agg #[.int .i64 sp, .int .i64 dp, .int .u32 y, .int .u32 ak, .int .i64 fl, .int .i64 wi, .int .i64 ur, .slice A5 os.length c5, .slice Ab nb cb]) (by simp [results, Tryd.results18, go_sem, t0, t1, t2, t3, t4, t5, t6, t7, t8]) rfl ⟨hbM, ⟨sp, dp, y, ak, fl, wi, ur, A5, os.length, c5, Ab, nb, cb, os, body⟩, rfl, ⟨HYB.out, HTU.out.2.1, HTU.out.2.2.1, HTU.out.2.2.2.1, opts_of_rowX hbM R5 OWN5.out, hcap.1, hcap.2, HTU.out.2.2.2.2.1.below hbM, HTU.out.2.2.2.2.2.1, HTU.out.2.2.2.2.2.2.1, HTU.out.2.2.2.2.2.2.2⟩, by simp only [Tcp.T.con]; rw [hcon.out, hfull, List.map_map]⟩
    | succ g2 =>
      have hi : i < no := by omega
      have hiz : (i : Int) < (no : Int) := by omega
      obtain ⟨o, ho⟩ : ∃ o, opts[i]? = some o := ⟨_, List.getElem?_eq_getElem (by rw [HO0.out.1]; omega)⟩
      have hmem := List.mem_of_getElem? ho
      have hok := HOP.out.2.1 o hmem
      have ho300 := HD.out o hmem
      obtain ⟨b, off, hAo, hbl, hcell⟩ := (HO0.out.below hbx).2.2 (by omega)
      obtain ⟨q0, q1⟩ := hcell i o ho
      have HG := Lib.hid ho
      have HOKH := Lib.hid hok
      obtain ⟨ok, oA, on, oc, od⟩ := o
      simp only at q0 q1 ho300
      have hlen : od.length = on := by have := hok.1.1; simp only at this; rw [bs_len] at this; omega
      have HLEN := Lib.hid hlen
      have hocs : on ≤ oc ∧ oc ≤ 9223372036854775807 := ⟨hok.2.2.1, hok.2.2.2.1⟩
      clear hcell ho hmem hok hlen
      subst hAo
      have hsx := hbx.size
      obtain ⟨V, hV⟩ : ∃ V, V = wr := ⟨_, rfl⟩
      have hB3 := @BlkV.new wr 62 [.int .i64 0, .slice none 0 0]
      go_upto_region 10 with (first | (refine wpList_stB 62 _ _ (by with_reducible rfl) rfl (by rfl) _ (by rfl) (by exact hB3) (by rfl) (opt_size (by rfl)) (by rfl) ?_; intro wa BA hO))
      rw [← hV] at hbx hsx hown HROW B0x B1x B2x BA hO q0 q1 hbl c7x hB3 ⊢
      clear hV
      have hba : Below V.heap.size V wa := hO.bel (Nat.le_refl _) (bel_a (Below.refl _ _) (.cells #[.int .i64 0, .slice none 0 0] 62))
      have hsa : V.heap.size < wa.heap.size := by rw [hO.size]; simp
      have B0a := B0x.below hba
      have B1a := B1x.below hba
      have B2a := B2x.below hba
      have c0 := BA.cell (i := 0) rfl
      have c1 := BA.cell (i := 1) rfl
      have d0 := B1a.cell (i := 0) rfl
      have d1 := B1a.cell (i := 1) rfl
      clear hB3 hO q0 q1 c7x B0x B1x B2x
      have hon0 : (0 : Int) ≤ (on : Int) := by omega
      by_cases hst : ok = 8 ∧ on = 8
      · obtain ⟨rfl, rfl⟩ := hst
        go_wp2_with fail
        go_loopg [11] 1 (fun gg s11 wx => 0 < gg ∧ s11 = .int .i64 0 ∧ wa = wx)
        case atStart => exact ⟨by omega, rfl, rfl⟩
        case round =>
          obtain ⟨hg, rfl, rfl⟩ := hrel
          have HQ : Hid ((Prox.back mb) (8, od) = (8, od.take 0 ++ Prox.sh1 mb (od.drop 0))) := Lib.hid (Prox.back8 mb od HLEN.out)
          have HMV : Hid (Calls Tryd.prog 35 #[.slice oA 8 oc, .int .i64 0, .int .u32 mb] wa (RetB wa 5 8 (od.take 0 ++ Prox.sh1 mb (od.drop 0)))) := Lib.hid (rmoved_spec oA 8 oc 0 od mb wa ((OptX.okay (W := W1) (bel_then hbW1 (bel_then hbx hba)) (.inl HOKH.out)).1) HOKH.out.2.1 (by omega) (by omega) HMB.out.1 HMB.out.2)
          go_upto_region 18 with fail
          go_wp2_with fail
          refine HMV.out.mono ?_
          rintro e wb ⟨A', c', rfl, ownb, hbb⟩
          have BAb := BA.below hbb
          clear HMV c0 c1 d0 d1
          go_upto_region 19 with (refine wpList_stF 27 _ _ 1 (.slice A' 8 c') rfl (by with_reducible rfl) rfl (by rfl) (by rfl) BAb (by simp) (by kernel_rfl) rfl ?_; intro wz BC0 hO)
          have BZ := BlkV.fit BC0 (m := [.int .i64 8, .slice A' 8 c']) rfl
          have hbz : Below V.heap.size V wz := hO.bel (Nat.le_refl _) (bel_then hba hbb)
          have ownz := own_st ownb BAb hO (by decide)
          have NEW : Hid (OptX w W1 wz ⟨8, A', 8, c', od.take 0 ++ Prox.sh1 mb (od.drop 0)⟩) := Lib.hid (.inr ⟨own_weak ownz (by have := hbb.size; omega), Prox.isB_app (Prox.isB_take HOKH.out.2.1 _) (Prox.sh1_isB _ _ (Prox.isB_drop HOKH.out.2.1 _)), (own_cap ownz).1, (own_cap ownz).2, (show (-9223372036854775808 : Int) ≤ 8 by decide), (show (8 : Int) ≤ 9223372036854775807 by decide)⟩)
          have HBZ := Lib.hid hbz
          have B0z := (B0a.below hbb).only hO (by omega)
          have B1z := (B1a.below hbb).only hO (by omega)
          have B2z := (B2a.below hbb).only hO (by omega)
          have e0 := BZ.cell (i := 0) rfl
          clear BC0 hO BAb hbb ownb ownz hbz B0a B1a B2a BA
          go_upto_region 19 with fail
          clear e0

          have R4H := Lib.hid (own_below HROW.out HBZ.out)
          have OWN4 : Hid (∀ o ∈ os, OptX w W1 wz o) := Lib.hid fun o hm => (hown.out o hm).below HBZ.out
          have hb4 := bel_then hbx HBZ.out
          have hb4s := hb4.size
          clear HROW hown
          go_wp2_with (first | (refine wpList_ldB 62 _ _ (by with_reducible rfl) rfl (by rfl) BZ Tryd.underlying62 rfl (opt_size (by rfl)) ?_) | (at_builtin; refine wpList_app _ rfl (.tmp 125) (.tmp 127) 26 rfl W1 (by exact hb4.alloc hb4s _) 62 (.agg #[.int .i64 0, .slice none 0 0]) 2 32 Tryd.underlying26 opt_info rfl (by decide) (.slice A5 i c5) i (optCells os) rfl (by exact R4H.out.alloc _) (some ⟨_, 0, none⟩) 1 1 [.int .i64 8, .slice A' 8 c'] rfl (by exact rd_pair _ _ _ _) (one_opt _ _ _ _) (by unfold maxLen; omega) (by omega) ?_; intro A6 c6 we R6 hbe hge hat))
          have B0e := (B0z.alloc (.cells #[.int .i64 8, .slice A' 8 c'] 62)).grownN hge (fun k hk => by have := (R4H.out.lt k hk).1; omega)
          have B1e := (B1z.alloc (.cells #[.int .i64 8, .slice A' 8 c'] 62)).grownN hge (fun k hk => by have := (R4H.out.lt k hk).1; omega)
          have B2e := (B2z.alloc (.cells #[.int .i64 8, .slice A' 8 c'] 62)).grownN hge (fun k hk => by have := (R4H.out.lt k hk).1; omega)
          have hal := (Below.refl wz.heap.size wz).alloc (Nat.le_refl _) (.cells #[.int .i64 8, .slice A' 8 c'] 62)
          have OWN5 : Hid (∀ o ∈ os ++ [(⟨8, A', 8, c', od.take 0 ++ Prox.sh1 mb (od.drop 0)⟩ : Tcp.Opt)], OptX w W1 we o) := Lib.hid fun o hm => by
            rcases List.mem_append.1 hm with h | h
            · exact ((OWN4.out o h).below hal).app (R4H.out.alloc _) hge
            · rw [List.mem_singleton] at h
              subst h
              exact (NEW.out.below hal).app (R4H.out.alloc _) hge
          have CON : Hid ((os ++ [(⟨8, A', 8, c', od.take 0 ++ Prox.sh1 mb (od.drop 0)⟩ : Tcp.Opt)]).map Tcp.Opt.con = ((opts.take (i + 1)).map Tcp.Opt.con).map (Prox.back mb)) := Lib.hid (by
            have htk : opts.take (i + 1) = opts.take i ++ opts[i]?.toList := List.take_add_one
            rw [htk, HG.out, List.map_append, List.map_append, List.map_append, hcon.out]
            simp only [List.map_cons, List.map_nil, Tcp.Opt.con, Option.toList_some]
            congr 2
            exact HQ.out.symm)
          have R7 : we.ownsRow W1.heap.size 62 2 (.slice A6 (i + 1) c6) (i + 1) (optCells (os ++ [(⟨8, A', 8, c', od.take 0 ++ Prox.sh1 mb (od.drop 0)⟩ : Tcp.Opt)])) := by rw [optCells_snoc]; exact R6
          have LEN := HOL.out
          clear BZ OWN4 NEW B0z B1z B2z hb4 R4H R6 hge hat hal hcon HOL
          go_roundg g2
          case measure => omega
          case rel => exact ⟨i + 1, os ++ [(⟨8, A', 8, c', od.take 0 ++ Prox.sh1 mb (od.drop 0)⟩ : Tcp.Opt)], A6, c6, by omega, by go_num, rfl, R7, by simp [LEN], OWN5, CON, B0e, B1e, B2e, hbe⟩
      obtain ⟨q8, hq8⟩ : ∃ q, (ok == 8) = q := ⟨_, rfl⟩
      obtain ⟨b1, hb1⟩ : ∃ b, ((on : Int) == 8) = b := ⟨_, rfl⟩
      have hno8 := Prox.no8 hq8 hb1 hst
      go_wp2_with fail
      go_loopg [11] 1 (fun gg s11 wx => 0 < gg ∧ s11 = .int .i64 0 ∧ wa = wx)
      case atStart => exact ⟨by omega, rfl, rfl⟩
      case round =>
        obtain ⟨hg, rfl, rfl⟩ := hrel
        have HQ : Hid ((Prox.back mb) (ok, od) = (ok, od)) := Lib.hid (Prox.back_no mb ok od on HLEN.out hst)
        have NEW : Hid (OptX w W1 wa ⟨ok, oA, on, oc, od⟩) := Lib.hid (.inl HOKH.out)
        have HBZ := Lib.hid hba
        go_upto_region 15 with fail
        go_cut [97] (fun s97 wx => s97 = .bool false ∧ wa = wx)
        case first =>
          cases q8 with
          | false =>
            go_wp2_with fail
            go_meet
            exact ⟨rfl, rfl⟩
          | true =>
            simp only [Bool.true_and] at hno8
            subst hno8
            go_wp2_with fail
            go_meet
            exact ⟨rfl, rfl⟩
        case rest =>
        obtain ⟨rfl, rfl⟩ := hcut
        go_upto_region 17 with fail
        go_cut [114] (fun s114 wx => s114 = .bool false ∧ wa = wx)
        case first =>
          cases q8 with
          | false =>
            go_wp2_with fail
            go_meet
            exact ⟨rfl, rfl⟩
          | true =>
            simp only [Bool.true_and] at hno8
            subst hno8
            go_wp2_with fail
            go_meet
            exact ⟨rfl, rfl⟩
        case rest =>
        obtain ⟨rfl, rfl⟩ := hcut
        go_upto_region 19 with fail
        clear c0 c1 d0 d1

        have R4H := Lib.hid (own_below HROW.out HBZ.out)
        have OWN4 : Hid (∀ o ∈ os, OptX w W1 wa o) := Lib.hid fun o hm => (hown.out o hm).below HBZ.out
        have hb4 := bel_then hbx HBZ.out
        have hb4s := hb4.size
        clear HROW hown
        go_wp2_with (first | (refine wpList_ldB 62 _ _ (by with_reducible rfl) rfl (by rfl) BA Tryd.underlying62 rfl (opt_size (by rfl)) ?_) | (at_builtin; refine wpList_app _ rfl (.tmp 125) (.tmp 127) 26 rfl W1 (by exact hb4.alloc hb4s _) 62 (.agg #[.int .i64 0, .slice none 0 0]) 2 32 Tryd.underlying26 opt_info rfl (by decide) (.slice A5 i c5) i (optCells os) rfl (by exact R4H.out.alloc _) (some ⟨_, 0, none⟩) 1 1 [.int .i64 ok, .slice oA on oc] rfl (by exact rd_pair _ _ _ _) (one_opt _ _ _ _) (by unfold maxLen; omega) (by omega) ?_; intro A6 c6 we R6 hbe hge hat))
        have B0e := (B0a.alloc (.cells #[.int .i64 ok, .slice oA on oc] 62)).grownN hge (fun k hk => by have := (R4H.out.lt k hk).1; omega)
        have B1e := (B1a.alloc (.cells #[.int .i64 ok, .slice oA on oc] 62)).grownN hge (fun k hk => by have := (R4H.out.lt k hk).1; omega)
        have B2e := (B2a.alloc (.cells #[.int .i64 ok, .slice oA on oc] 62)).grownN hge (fun k hk => by have := (R4H.out.lt k hk).1; omega)
        have hal := (Below.refl wa.heap.size wa).alloc (Nat.le_refl _) (.cells #[.int .i64 ok, .slice oA on oc] 62)
        have OWN5 : Hid (∀ o ∈ os ++ [(⟨ok, oA, on, oc, od⟩ : Tcp.Opt)], OptX w W1 we o) := Lib.hid fun o hm => by
          rcases List.mem_append.1 hm with h | h
          · exact ((OWN4.out o h).below hal).app (R4H.out.alloc _) hge
          · rw [List.mem_singleton] at h
            subst h
            exact (NEW.out.below hal).app (R4H.out.alloc _) hge
        have CON : Hid ((os ++ [(⟨ok, oA, on, oc, od⟩ : Tcp.Opt)]).map Tcp.Opt.con = ((opts.take (i + 1)).map Tcp.Opt.con).map (Prox.back mb)) := Lib.hid (by
          have htk : opts.take (i + 1) = opts.take i ++ opts[i]?.toList := List.take_add_one
          rw [htk, HG.out, List.map_append, List.map_append, List.map_append, hcon.out]
          simp only [List.map_cons, List.map_nil, Tcp.Opt.con, Option.toList_some]
          congr 2
          exact HQ.out.symm)
        have R7 : we.ownsRow W1.heap.size 62 2 (.slice A6 (i + 1) c6) (i + 1) (optCells (os ++ [(⟨ok, oA, on, oc, od⟩ : Tcp.Opt)])) := by rw [optCells_snoc]; exact R6
        have LEN := HOL.out
        clear BA OWN4 NEW B0a B1a B2a hb4 R4H R6 hge hat hal hcon HOL
        go_roundg g2
        case measure => omega
        case rel => exact ⟨i + 1, os ++ [(⟨ok, oA, on, oc, od⟩ : Tcp.Opt)], A6, c6, by omega, by go_num, rfl, R7, by simp [LEN], OWN5, CON, B0e, B1e, B2e, hbe⟩
end Go.Proofs.YtpidpbjbgjkaaaaDoor
