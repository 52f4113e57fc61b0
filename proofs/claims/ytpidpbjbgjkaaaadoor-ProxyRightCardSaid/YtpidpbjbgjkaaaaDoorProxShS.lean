/- The walk of casemateref24.Shifted, on the way to the server (printed by gen_shr.py). -/
import Derived.Test.YtpidpbjbgjkaaaaDoorJ9
namespace Go.Proofs.YtpidpbjbgjkaaaaDoor
open Go.RowKit
set_option maxRecDepth 8000
set_option linter.unusedVariables false
set_option linter.unusedSimpArgs false
set_option maxHeartbeats 16000000 in
theorem rshift_S (t : Tcp.T) (s st : Int) (w : World) (ht : t.ok w) (hsm : t.con.small) (h0 : 0 ≤ s) (h1 : s ≤ 4294967295) (h2 : 0 ≤ st) (h3 : st ≤ 4294967295) :
    Calls Tryd.prog 18 #[.agg #[.int .i64 t.sp, .int .i64 t.dp, .int .u32 t.sq, .int .u32 t.ak, .int .i64 t.fl, .int .i64 t.wi, .int .i64 t.ur, .slice t.Ao t.no t.co, .slice t.Ab t.nb t.cb], .agg #[.int .u32 s, .int .u32 st], .bool true] w (ShiftS (Prox.toS s st t.con) w) := by
  obtain ⟨hno, hdat, hnb⟩ := small_of ht hsm
  obtain ⟨sp, dp, sq, ak, fl, wi, ur, Ao, no, co, Ab, nb, cb, opts, body⟩ := t
  simp only at hno hdat hnb
  show Calls _ _ #[.agg #[.int .i64 sp, .int .i64 dp, .int .u32 sq, .int .u32 ak, .int .i64 fl, .int .i64 wi, .int .i64 ur, .slice Ao no co, .slice Ab nb cb], .agg #[.int .u32 s, .int .u32 st], .bool true] w _
  obtain ⟨W, hW⟩ : ∃ W, W = ((w.alloc (.cells #[.int .i64 sp, .int .i64 dp, .int .u32 sq, .int .u32 ak, .int .i64 fl, .int .i64 wi, .int .i64 ur, .slice Ao no co, .slice Ab nb cb] 29)).alloc (.cells #[.int .u32 s, .int .u32 st] 31)).alloc (.cells #[.int .i64 0, .int .i64 0, .int .u32 0, .int .u32 0, .int .i64 0, .int .i64 0, .int .i64 0, .slice none 0 0, .slice none 0 0] 29) := ⟨_, rfl⟩
  have hbW : Below w.heap.size w W := (by rw [hW]; exact (((Below.refl _ _).alloc (Nat.le_refl _) _).alloc (by simp) _).alloc (by simp; omega) _)
  have hWs : w.heap.size + 2 < W.heap.size := (by rw [hW]; simp)
  have B0 : BlkV W w.heap.size 29 [.int .i64 sp, .int .i64 dp, .int .u32 sq, .int .u32 ak, .int .i64 fl, .int .i64 wi, .int .i64 ur, .slice Ao no co, .slice Ab nb cb] := (by rw [hW]; exact ((BlkV.new w _ _).alloc _).alloc _)
  have B1 : BlkV W (w.heap.size + 1) 31 [.int .u32 s, .int .u32 st] := (by rw [hW]; exact (BlkV.new_at (w.alloc (.cells #[.int .i64 sp, .int .i64 dp, .int .u32 sq, .int .u32 ak, .int .i64 fl, .int .i64 wi, .int .i64 ur, .slice Ao no co, .slice Ab nb cb] 29)) _ _ (by simp)).alloc _)
  have B2 : BlkV W (w.heap.size + 1 + 1) 29 [.int .i64 0, .int .i64 0, .int .u32 0, .int .u32 0, .int .i64 0, .int .i64 0, .int .i64 0, .slice none 0 0, .slice none 0 0] := (by rw [hW]; exact (BlkV.new_at ((w.alloc (.cells #[.int .i64 sp, .int .i64 dp, .int .u32 sq, .int .u32 ak, .int .i64 fl, .int .i64 wi, .int .i64 ur, .slice Ao no co, .slice Ab nb cb] 29)).alloc (.cells #[.int .u32 s, .int .u32 st] 31)) _ _ (by simp)))
  have HTU : Hid ((0 ≤ sq ∧ sq ≤ 4294967295) ∧ (0 ≤ ak ∧ ak ≤ 4294967295) ∧ (-9223372036854775808 ≤ fl ∧ fl ≤ 9223372036854775807) ∧ (-9223372036854775808 ≤ wi ∧ wi ≤ 9223372036854775807) ∧ Rd w 1 Ab nb (bs body) ∧ isB body ∧ nb ≤ cb ∧ cb ≤ 9223372036854775807) := Lib.hid ⟨ht.sq, ht.ak, ht.fl, ht.wi, ht.body, ht.isb, ht.nbc, ht.cbc⟩
  have HD := Lib.hid hdat
  have HOP := Lib.hid ht.opts
  obtain ⟨q, hq⟩ : ∃ q, (Go.bits .and .i64 fl 16 != 0) = q := ⟨_, rfl⟩
  obtain ⟨y, hy⟩ : ∃ y, y = if q = true then (ak + s) % 4294967296 else ak := ⟨_, rfl⟩
  have hyb : 0 ≤ y ∧ y ≤ 4294967295 := by
    have := ht.ak
    simp only at this
    rw [hy]
    split <;> omega
  have HYB := Lib.hid hyb
  have HQ0 : Hid (Prox.toS s st (⟨sp, dp, sq, ak, fl, wi, ur, Ao, no, co, Ab, nb, cb, opts, body⟩ : Tcp.T).con = ⟨sp, dp, sq, y, fl, wi, ur, (opts.map Tcp.Opt.con).map (Prox.there s st), body⟩) := Lib.hid (by
    subst hq
    rw [hy]
    rfl)
  have HON := Lib.hid (fun w => ron_spec ak s w ht.ak.1 ht.ak.2 h0 h1)
  have c4 := B0.cell (i := 4) rfl
  have c3 := B0.cell (i := 3) rfl
  have d0 := B1.cell (i := 0) rfl
  have HY := Lib.hid hy
  rw [HQ0.out]
  clear ht hsm hdat hyb hy HQ0
  go_enter Tryd.func18, Tryd.ntmps18
  go_upto_region 1 with (fail)
  rw [← hW]
  clear hW
  go_upto_if 18 with (fail)
  go_cut [] (fun wx => BlkV wx w.heap.size 29 [.int .i64 sp, .int .i64 dp, .int .u32 sq, .int .u32 y, .int .i64 fl, .int .i64 wi, .int .i64 ur, .slice Ao no co, .slice Ab nb cb] ∧ BlkV wx (w.heap.size + 1) 31 [.int .u32 s, .int .u32 st] ∧ BlkV wx (w.heap.size + 1 + 1) 29 [.int .i64 0, .int .i64 0, .int .u32 0, .int .u32 0, .int .i64 0, .int .i64 0, .int .i64 0, .slice none 0 0, .slice none 0 0] ∧ Below w.heap.size w wx ∧ Hid (wx.heap.size = W.heap.size))
  case first =>
    cases q
    · go_wp2_with fail
      go_meet
      have e := HY.out
      simp only [Bool.false_eq_true, if_false] at e
      subst e
      exact ⟨B0, B1, B2, hbW, Lib.hid rfl⟩
    · have e := HY.out
      simp only [if_true] at e
      subst e
      have f3 := B0.unfrozen 3
      go_wp2_with fail
      refine (HON.out _).mono ?_
      rintro e w' ⟨rfl, rfl⟩
      go_wp2_with fail
      go_meet
      have BD0 := B0.put 3 (.int .u32 ((ak + s) % 4294967296))
      have hO := OnlyB.set W w.heap.size 3 (.int .u32 ((ak + s) % 4294967296))
      exact ⟨BlkV.fit BD0 rfl, B1.only hO (by omega), B2.only hO (by omega), hO.bel (Nat.le_refl _) hbW, Lib.hid hO.size⟩
  case rest =>
  obtain ⟨B0c, B1c, B2c, hbW1, HSZ⟩ := hcut
  obtain ⟨W1, rfl⟩ : ∃ W1, W1 = wc := ⟨wc, rfl⟩
  have hWs1 : w.heap.size + 2 < W1.heap.size := by have := HSZ.out; omega
  have HO0 : Hid (Tcp.OptsRd W1 Ao no opts) := Lib.hid (HOP.out.below hbW1)
  clear B0 B1 B2 c3 c4 d0 HON HY
  have hn63 : (no : Int) ≤ 9223372036854775807 := by omega
  have c7 := B0c.cell (i := 7) rfl
  go_wp2_with fail
  clear c7
  go_loopg [7, 8, 9, 10, 11] no (fun g s7 s8 _ _ _ wx => ∃ (i : Nat) (os : List Tcp.Opt) (A5 : Option Addr) (c5 : Nat), i + g = no ∧ s8 = .int .i64 i ∧ s7 = .slice A5 i c5 ∧ wx.ownsRow W1.heap.size 62 2 (.slice A5 i c5) i (optCells os) ∧ os.length = i ∧ Hid (∀ o ∈ os, OptX w W1 wx o) ∧ Hid (os.map Tcp.Opt.con = ((opts.take i).map Tcp.Opt.con).map (Prox.there s st)) ∧ BlkV wx w.heap.size 29 [.int .i64 sp, .int .i64 dp, .int .u32 sq, .int .u32 y, .int .i64 fl, .int .i64 wi, .int .i64 ur, .slice Ao no co, .slice Ab nb cb] ∧ BlkV wx (w.heap.size + 1) 31 [.int .u32 s, .int .u32 st] ∧ BlkV wx (w.heap.size + 1 + 1) 29 [.int .i64 0, .int .i64 0, .int .u32 0, .int .u32 0, .int .i64 0, .int .i64 0, .int .i64 0, .slice none 0 0, .slice none 0 0] ∧ Below W1.heap.size W1 wx)
  case atStart => exact ⟨0, [], none, 0, by omega, rfl, rfl, World.ownsRow_nil _ _ _ _, rfl, Lib.hid (fun o ho => by cases ho), Lib.hid (by simp), B0c, B1c, B2c, Below.refl _ _⟩
  case round =>
    obtain ⟨i, os, A5, c5, hig, rfl, rfl, hrow, hol, hown, hcon, B0x, B1x, B2x, hbx⟩ := hrel
    have HROW := Lib.hid hrow
    have HOL := Lib.hid hol
    have c7x := B0x.cell (i := 7) rfl
    clear hrow hol B0c B1c B2c
    cases gk with
    | zero =>
      have hin : i = no := by omega
      have hiz : ¬ (i : Int) < (no : Int) := by omega
      have HIN := Lib.hid hin
      clear hin
      go_upto_region 21 with (first | (refine wpList_stF 26 _ _ 7 (.slice A5 i c5) rfl (by with_reducible rfl) rfl (by rfl) (by rfl) B0x (by simp) (by kernel_rfl) rfl ?_; intro wd BD0 hO))
      have BD := BlkV.fit BD0 (m := [.int .i64 sp, .int .i64 dp, .int .u32 sq, .int .u32 y, .int .i64 fl, .int .i64 wi, .int .i64 ur, .slice A5 i c5, .slice Ab nb cb]) rfl
      have B2d := B2x.only hO (by omega)
      have R4 := own_st HROW.out B0x hO (by decide)
      have OWN4 : Hid (∀ o ∈ os, OptX w W1 wd o) := Lib.hid fun o hm => (hown.out o hm).store B0x hO (by decide)
      have hb4 : Below w.heap.size w wd := hO.bel (Nat.le_refl _) (bel_then hbW1 hbx)
      have hsd := hO.size
      clear BD0 B1x c7x hown HROW
      go_wp2_with (first | (refine wpList_ldB 29 _ _ (by with_reducible rfl) rfl (by rfl) BD Tryd.underlying29 rfl (tcp_size (by rfl)) ?_) | (refine wpList_stB 29 _ _ (by with_reducible rfl) rfl (by rfl) _ (by rfl) B2d (by rfl) (tcp_size (by rfl)) (by rfl) ?_; intro wM BM hM))
      obtain ⟨t0, t1, t2, t3, t4, t5, t6, t7, t8⟩ := cells9' BM
      have R5 := own_st R4 B2d hM (by decide)
      have OWN5 : Hid (∀ o ∈ os, OptX w W1 wM o) := Lib.hid fun o hm => (OWN4.out o hm).store B2d hM (by decide)
      have hl := HOL.out
      have hin := HIN.out
      subst hin
      have hfull : opts.take i = opts := List.take_of_length_le (by have := HO0.out.1; omega)
      subst hl
      have hbM : Below w.heap.size w wM := hM.bel (by omega) hb4
      have hcap := own_cap R5
      exact bodyPost_ret (v := .agg #[.int .i64 sp, .int .i64 dp, .int .u32 sq, .int .u32 y, .int .i64 fl, .int .i64 wi, .int .i64 ur, .slice A5 os.length c5, .slice Ab nb cb]) (by simp [results, Tryd.results18, go_sem, t0, t1, t2, t3, t4, t5, t6, t7, t8]) rfl ⟨hbM, ⟨sp, dp, sq, y, fl, wi, ur, A5, os.length, c5, Ab, nb, cb, os, body⟩, rfl, ⟨HTU.out.1, HYB.out, HTU.out.2.2.1, HTU.out.2.2.2.1, opts_of_rowX hbM R5 OWN5.out, hcap.1, hcap.2, HTU.out.2.2.2.2.1.below hbM, HTU.out.2.2.2.2.2.1, HTU.out.2.2.2.2.2.2.1, HTU.out.2.2.2.2.2.2.2⟩, by simp only [Tcp.T.con]; rw [hcon.out, hfull, List.map_map]⟩
    | succ g2 =>
      have hi : i < no := by omega
      have hiz : (i : Int) < (no : Int) := by omega
      obtain ⟨o, ho⟩ : ∃ o, opts[i]? = some o := ⟨_, List.getElem?_eq_getElem (by rw [HO0.out.1]; omega)⟩
      have hmem := List.mem_of_getElem? ho
      have hok := HOP.out.2.1 o hmem
      have ho300 := HD.out o hmem
      obtain ⟨b, off, hAo, hbl, hcell⟩ := (HO0.out.below hbx).2.2 (by omega)
      obtain ⟨q0, q1⟩ := hcell i o ho
      have HG := Lib.hid ho
      have HOKH := Lib.hid hok
      obtain ⟨ok, oA, on, oc, od⟩ := o
      simp only at q0 q1 ho300
      have hlen : od.length = on := by have := hok.1.1; simp only at this; rw [bs_len] at this; omega
      have HLEN := Lib.hid hlen
      have hocs : on ≤ oc ∧ oc ≤ 9223372036854775807 := ⟨hok.2.2.1, hok.2.2.2.1⟩
      clear hcell ho hmem hok hlen
      subst hAo
      have hsx := hbx.size
      obtain ⟨V, hV⟩ : ∃ V, V = wr := ⟨_, rfl⟩
      have hB3 := @BlkV.new wr 62 [.int .i64 0, .slice none 0 0]
      go_upto_region 10 with (first | (refine wpList_stB 62 _ _ (by with_reducible rfl) rfl (by rfl) _ (by rfl) (by exact hB3) (by rfl) (opt_size (by rfl)) (by rfl) ?_; intro wa BA hO))
      rw [← hV] at hbx hsx hown HROW B0x B1x B2x BA hO q0 q1 hbl c7x hB3 ⊢
      clear hV
      have hba : Below V.heap.size V wa := hO.bel (Nat.le_refl _) (bel_a (Below.refl _ _) (.cells #[.int .i64 0, .slice none 0 0] 62))
      have hsa : V.heap.size < wa.heap.size := by rw [hO.size]; simp
      have B0a := B0x.below hba
      have B1a := B1x.below hba
      have B2a := B2x.below hba
      have c0 := BA.cell (i := 0) rfl
      have c1 := BA.cell (i := 1) rfl
      have d0 := B1a.cell (i := 0) rfl
      have d1 := B1a.cell (i := 1) rfl
      clear hB3 hO q0 q1 c7x B0x B1x B2x
      have hon0 : (0 : Int) ≤ (on : Int) := by omega
      by_cases h5 : ok = 5 ∧ (on = 8 ∨ on = 16 ∨ on = 24 ∨ on = 32)
      · obtain ⟨rfl, hn4⟩ := h5
        have HN4 := Lib.hid hn4
        obtain ⟨K, hK⟩ : ∃ K, on = 4 * K := ⟨on / 4, by omega⟩
        have HK := Lib.hid hK
        have HQ : Hid ((Prox.there s st) (5, od) = (5, Prox.sh s od)) := Lib.hid (Prox.there5 s st od on HLEN.out hn4)
        have hg8 : Hid (∀ P : Prop, (on = 8 → P) → (on = 16 → P) → (on = 24 → P) → (on = 32 → P) → P) := Lib.hid fun P a b c d => by
          rcases hn4 with h | h | h | h
          · exact a h
          · exact b h
          · exact c h
          · exact d h
        obtain ⟨b1, hb1⟩ : ∃ b, ((on : Int) == 8) = b := ⟨_, rfl⟩
        obtain ⟨b2, hb2⟩ : ∃ b, ((on : Int) == 16) = b := ⟨_, rfl⟩
        obtain ⟨b3, hb3⟩ : ∃ b, ((on : Int) == 24) = b := ⟨_, rfl⟩
        obtain ⟨b4, hb4⟩ : ∃ b, ((on : Int) == 32) = b := ⟨_, rfl⟩
        have hor := Prox.is4 hb1 hb2 hb3 hb4 hn4
        clear hn4 hK
        go_upto_region 12 with fail
        go_wp2_with fail
        go_loopg [11] K (fun gg s11 wx => ∃ (kk a : Nat) (A2 : Option Addr) (c2 : Nat), kk + gg = K ∧ Hid (a = 4 * kk) ∧ s11 = .int .i64 a ∧ BlkV wx V.heap.size 62 [.int .i64 5, .slice A2 on c2] ∧ BlkV wx w.heap.size 29 [.int .i64 sp, .int .i64 dp, .int .u32 sq, .int .u32 y, .int .i64 fl, .int .i64 wi, .int .i64 ur, .slice (some ⟨b, off, none⟩) no co, .slice Ab nb cb] ∧ BlkV wx (w.heap.size + 1) 31 [.int .u32 s, .int .u32 st] ∧ BlkV wx (w.heap.size + 1 + 1) 29 [.int .i64 0, .int .i64 0, .int .u32 0, .int .u32 0, .int .i64 0, .int .i64 0, .int .i64 0, .slice none 0 0, .slice none 0 0] ∧ Hid (OptX w W1 wx ⟨5, A2, on, c2, Prox.sh s (od.take (4 * kk)) ++ od.drop (4 * kk)⟩) ∧ Hid (Below V.heap.size V wx))
        case atStart => exact ⟨0, 0, _, _, by omega, Lib.hid rfl, rfl, BA, B0a, B1a, B2a, Lib.hid (by simp only [Nat.mul_zero, List.take_zero, List.drop_zero, Prox.sh, List.nil_append]; exact .inl HOKH.out), Lib.hid hba⟩
        case round =>
          obtain ⟨kk, a, A2, c2, hkk, ha, rfl, BAx, B0y, B1y, B2y, NEWX, HBX⟩ := hrel
          have k0 := BAx.cell (i := 0) rfl
          have k1 := BAx.cell (i := 1) rfl
          have d0 := B1y.cell (i := 0) rfl
          go_upto_region 12 with fail
          go_cut [78] (fun s78 wx => s78 = .bool (decide (a < on)) ∧ wr = wx)
          case first =>
            cases b1 <;> cases b2 <;> cases b3 <;> cases b4
            all_goals (first | (exact absurd hor (by decide)) | (go_wp2_with fail; go_meet; exact ⟨rfl, rfl⟩))
          case rest =>
          obtain ⟨rfl, rfl⟩ := hcut
          cases gk with
          | zero =>
            have haz : ¬ a < on := by have := HK.out; have := ha.out; omega
            have hazd : decide (a < on) = false := decide_eq_false haz
            have NEW : Hid (OptX w W1 wr ⟨5, A2, on, c2, Prox.sh s od⟩) := Lib.hid (by
              have h := NEWX.out
              have e : 4 * kk = od.length := by have := HK.out; have := HLEN.out; omega
              rw [e, List.take_length, List.drop_length, List.append_nil] at h
              exact h)
            have HBZ := HBX
            clear NEWX
            go_upto_region 19 with fail
            have R4H := Lib.hid (own_below HROW.out HBZ.out)
            have OWN4 : Hid (∀ o ∈ os, OptX w W1 wr o) := Lib.hid fun o hm => (hown.out o hm).below HBZ.out
            have hb4 := bel_then hbx HBZ.out
            have hb4s := hb4.size
            clear HROW hown
            go_wp2_with (first | (refine wpList_ldB 62 _ _ (by with_reducible rfl) rfl (by rfl) BAx Tryd.underlying62 rfl (opt_size (by rfl)) ?_) | (at_builtin; refine wpList_app _ rfl (.tmp 125) (.tmp 127) 26 rfl W1 (by exact hb4.alloc hb4s _) 62 (.agg #[.int .i64 0, .slice none 0 0]) 2 32 Tryd.underlying26 opt_info rfl (by decide) (.slice A5 i c5) i (optCells os) rfl (by exact R4H.out.alloc _) (some ⟨_, 0, none⟩) 1 1 [.int .i64 5, .slice A2 on c2] rfl (by exact rd_pair _ _ _ _) (one_opt _ _ _ _) (by unfold maxLen; omega) (by omega) ?_; intro A6 c6 we R6 hbe hge hat))
            have B0e := (B0y.alloc (.cells #[.int .i64 5, .slice A2 on c2] 62)).grownN hge (fun k hk => by have := (R4H.out.lt k hk).1; omega)
            have B1e := (B1y.alloc (.cells #[.int .i64 5, .slice A2 on c2] 62)).grownN hge (fun k hk => by have := (R4H.out.lt k hk).1; omega)
            have B2e := (B2y.alloc (.cells #[.int .i64 5, .slice A2 on c2] 62)).grownN hge (fun k hk => by have := (R4H.out.lt k hk).1; omega)
            have hal := (Below.refl wr.heap.size wr).alloc (Nat.le_refl _) (.cells #[.int .i64 5, .slice A2 on c2] 62)
            have OWN5 : Hid (∀ o ∈ os ++ [(⟨5, A2, on, c2, Prox.sh s od⟩ : Tcp.Opt)], OptX w W1 we o) := Lib.hid fun o hm => by
              rcases List.mem_append.1 hm with h | h
              · exact ((OWN4.out o h).below hal).app (R4H.out.alloc _) hge
              · rw [List.mem_singleton] at h
                subst h
                exact (NEW.out.below hal).app (R4H.out.alloc _) hge
            have CON : Hid ((os ++ [(⟨5, A2, on, c2, Prox.sh s od⟩ : Tcp.Opt)]).map Tcp.Opt.con = ((opts.take (i + 1)).map Tcp.Opt.con).map (Prox.there s st)) := Lib.hid (by
              have htk : opts.take (i + 1) = opts.take i ++ opts[i]?.toList := List.take_add_one
              rw [htk, HG.out, List.map_append, List.map_append, List.map_append, hcon.out]
              simp only [List.map_cons, List.map_nil, Tcp.Opt.con, Option.toList_some]
              congr 2
              exact HQ.out.symm)
            have R7 : we.ownsRow W1.heap.size 62 2 (.slice A6 (i + 1) c6) (i + 1) (optCells (os ++ [(⟨5, A2, on, c2, Prox.sh s od⟩ : Tcp.Opt)])) := by rw [optCells_snoc]; exact R6
            have LEN := HOL.out
            clear BAx OWN4 NEW B0y B1y B2y hb4 R4H R6 hge hat hal hcon HOL
            go_roundg g2
            case measure => omega
            case rel => exact ⟨i + 1, os ++ [(⟨5, A2, on, c2, Prox.sh s od⟩ : Tcp.Opt)], A6, c6, by omega, by go_num, rfl, R7, by simp [LEN], OWN5, CON, B0e, B1e, B2e, hbe⟩
          | succ g3 =>
            have haz : a < on := by have := HK.out; have := ha.out; omega
            have hazd : decide (a < on) = true := decide_eq_true haz
            have ha4 : a + 4 ≤ on := by have := HK.out; have := ha.out; omega
            have hox := OptX.okay (bel_then hbW1 (bel_then hbx HBX.out)) NEWX.out
            have HMV := Lib.hid (rmoved_spec A2 on c2 a _ s wr hox.1 hox.2.1 ha4 (by omega) h0 h1)
            have HEQ : Hid ((Prox.sh s (od.take (4 * kk)) ++ od.drop (4 * kk)).take a ++ Prox.sh1 s ((Prox.sh s (od.take (4 * kk)) ++ od.drop (4 * kk)).drop a) = Prox.sh s (od.take (4 * (kk + 1))) ++ od.drop (4 * (kk + 1))) := Lib.hid (by
              have hll := HLEN.out
              have e : (Prox.sh s (od.take (4 * kk))).length = a := by rw [Prox.sh_len, List.length_take]; have := ha.out; omega
              rw [List.take_left' e, List.drop_left' e]
              exact Prox.sh_round s od kk (by have := ha.out; omega))
            simp only [HEQ.out] at HMV
            have HISB : Hid (isB (Prox.sh s (od.take (4 * (kk + 1))) ++ od.drop (4 * (kk + 1)))) := Lib.hid (Prox.isB_app (Prox.sh_isB _ _ (Prox.isB_take HOKH.out.2.1 _)) (Prox.isB_drop HOKH.out.2.1 _))
            have HKK := Lib.hid hkk
            have HAA := ha
            have hVs := HBX.out.size
            clear hox HEQ ha hkk
            go_upto_region 14 with fail
            go_wp2_with fail
            refine HMV.out.mono ?_
            rintro e wb ⟨A', c', rfl, ownb, hbb⟩
            have BAb := BAx.below hbb
            clear HMV k0 k1 d0
            go_upto_region 13 with (refine wpList_stF 27 _ _ 1 (.slice A' on c') rfl (by with_reducible rfl) rfl (by rfl) (by rfl) BAb (by simp) (by kernel_rfl) rfl ?_; intro wz BC0 hO)
            have BZ := BlkV.fit BC0 (m := [.int .i64 5, .slice A' on c']) rfl
            have hbz : Below V.heap.size V wz := hO.bel (Nat.le_refl _) (bel_then HBX.out hbb)
            have ownz := own_st ownb BAb hO (by decide)
            have NEW : Hid (OptX w W1 wz ⟨5, A', on, c', Prox.sh s (od.take (4 * (kk + 1))) ++ od.drop (4 * (kk + 1))⟩) := Lib.hid (.inr ⟨own_weak ownz (by have := hbb.size; omega), HISB.out, (own_cap ownz).1, (own_cap ownz).2, (show (-9223372036854775808 : Int) ≤ 5 by decide), (show (5 : Int) ≤ 9223372036854775807 by decide)⟩)
            have HBZ := Lib.hid hbz
            have B0z := (B0y.below hbb).only hO (by omega)
            have B1z := (B1y.below hbb).only hO (by omega)
            have B2z := (B2y.below hbb).only hO (by omega)
            clear BC0 hO BAb hbb ownb ownz hbz B0y B1y B2y BAx NEWX
            go_wp2_with fail
            go_roundg g3
            case measure => omega
            case rel => exact ⟨kk + 1, a + 4, A', c', by have := HKK.out; omega, Lib.hid (by have := HAA.out; omega), by go_num, BZ, B0z, B1z, B2z, NEW, HBZ⟩
      by_cases hst : ok = 8 ∧ on = 8
      · obtain ⟨rfl, rfl⟩ := hst
        go_wp2_with fail
        go_loopg [11] 1 (fun gg s11 wx => 0 < gg ∧ s11 = .int .i64 0 ∧ wa = wx)
        case atStart => exact ⟨by omega, rfl, rfl⟩
        case round =>
          obtain ⟨hg, rfl, rfl⟩ := hrel
          have HQ : Hid ((Prox.there s st) (8, od) = (8, od.take 4 ++ Prox.sh1 st (od.drop 4))) := Lib.hid (Prox.there8 s st od HLEN.out)
          have HMV : Hid (Calls Tryd.prog 35 #[.slice oA 8 oc, .int .i64 4, .int .u32 st] wa (RetB wa 5 8 (od.take 4 ++ Prox.sh1 st (od.drop 4)))) := Lib.hid (rmoved_spec oA 8 oc 4 od st wa ((OptX.okay (W := W1) (bel_then hbW1 (bel_then hbx hba)) (.inl HOKH.out)).1) HOKH.out.2.1 (by omega) (by omega) h2 h3)
          go_upto_region 16 with fail
          go_wp2_with fail
          refine HMV.out.mono ?_
          rintro e wb ⟨A', c', rfl, ownb, hbb⟩
          have BAb := BA.below hbb
          clear HMV c0 c1 d0 d1
          go_upto_region 17 with (refine wpList_stF 27 _ _ 1 (.slice A' 8 c') rfl (by with_reducible rfl) rfl (by rfl) (by rfl) BAb (by simp) (by kernel_rfl) rfl ?_; intro wz BC0 hO)
          have BZ := BlkV.fit BC0 (m := [.int .i64 8, .slice A' 8 c']) rfl
          have hbz : Below V.heap.size V wz := hO.bel (Nat.le_refl _) (bel_then hba hbb)
          have ownz := own_st ownb BAb hO (by decide)
          have NEW : Hid (OptX w W1 wz ⟨8, A', 8, c', od.take 4 ++ Prox.sh1 st (od.drop 4)⟩) := Lib.hid (.inr ⟨own_weak ownz (by have := hbb.size; omega), Prox.isB_app (Prox.isB_take HOKH.out.2.1 _) (Prox.sh1_isB _ _ (Prox.isB_drop HOKH.out.2.1 _)), (own_cap ownz).1, (own_cap ownz).2, (show (-9223372036854775808 : Int) ≤ 8 by decide), (show (8 : Int) ≤ 9223372036854775807 by decide)⟩)
          have HBZ := Lib.hid hbz
          have B0z := (B0a.below hbb).only hO (by omega)
          have B1z := (B1a.below hbb).only hO (by omega)
          have B2z := (B2a.below hbb).only hO (by omega)
          have e0 := BZ.cell (i := 0) rfl
          clear BC0 hO BAb hbb ownb ownz hbz B0a B1a B2a BA
          go_upto_region 19 with fail
          clear e0

          have R4H := Lib.hid (own_below HROW.out HBZ.out)
          have OWN4 : Hid (∀ o ∈ os, OptX w W1 wz o) := Lib.hid fun o hm => (hown.out o hm).below HBZ.out
          have hb4 := bel_then hbx HBZ.out
          have hb4s := hb4.size
          clear HROW hown
          go_wp2_with (first | (refine wpList_ldB 62 _ _ (by with_reducible rfl) rfl (by rfl) BZ Tryd.underlying62 rfl (opt_size (by rfl)) ?_) | (at_builtin; refine wpList_app _ rfl (.tmp 125) (.tmp 127) 26 rfl W1 (by exact hb4.alloc hb4s _) 62 (.agg #[.int .i64 0, .slice none 0 0]) 2 32 Tryd.underlying26 opt_info rfl (by decide) (.slice A5 i c5) i (optCells os) rfl (by exact R4H.out.alloc _) (some ⟨_, 0, none⟩) 1 1 [.int .i64 8, .slice A' 8 c'] rfl (by exact rd_pair _ _ _ _) (one_opt _ _ _ _) (by unfold maxLen; omega) (by omega) ?_; intro A6 c6 we R6 hbe hge hat))
          have B0e := (B0z.alloc (.cells #[.int .i64 8, .slice A' 8 c'] 62)).grownN hge (fun k hk => by have := (R4H.out.lt k hk).1; omega)
          have B1e := (B1z.alloc (.cells #[.int .i64 8, .slice A' 8 c'] 62)).grownN hge (fun k hk => by have := (R4H.out.lt k hk).1; omega)
          have B2e := (B2z.alloc (.cells #[.int .i64 8, .slice A' 8 c'] 62)).grownN hge (fun k hk => by have := (R4H.out.lt k hk).1; omega)
          have hal := (Below.refl wz.heap.size wz).alloc (Nat.le_refl _) (.cells #[.int .i64 8, .slice A' 8 c'] 62)
          have OWN5 : Hid (∀ o ∈ os ++ [(⟨8, A', 8, c', od.take 4 ++ Prox.sh1 st (od.drop 4)⟩ : Tcp.Opt)], OptX w W1 we o) := Lib.hid fun o hm => by
            rcases List.mem_append.1 hm with h | h
            · exact ((OWN4.out o h).below hal).app (R4H.out.alloc _) hge
            · rw [List.mem_singleton] at h
              subst h
              exact (NEW.out.below hal).app (R4H.out.alloc _) hge
          have CON : Hid ((os ++ [(⟨8, A', 8, c', od.take 4 ++ Prox.sh1 st (od.drop 4)⟩ : Tcp.Opt)]).map Tcp.Opt.con = ((opts.take (i + 1)).map Tcp.Opt.con).map (Prox.there s st)) := Lib.hid (by
            have htk : opts.take (i + 1) = opts.take i ++ opts[i]?.toList := List.take_add_one
            rw [htk, HG.out, List.map_append, List.map_append, List.map_append, hcon.out]
            simp only [List.map_cons, List.map_nil, Tcp.Opt.con, Option.toList_some]
            congr 2
            exact HQ.out.symm)
          have R7 : we.ownsRow W1.heap.size 62 2 (.slice A6 (i + 1) c6) (i + 1) (optCells (os ++ [(⟨8, A', 8, c', od.take 4 ++ Prox.sh1 st (od.drop 4)⟩ : Tcp.Opt)])) := by rw [optCells_snoc]; exact R6
          have LEN := HOL.out
          clear BZ OWN4 NEW B0z B1z B2z hb4 R4H R6 hge hat hal hcon HOL
          go_roundg g2
          case measure => omega
          case rel => exact ⟨i + 1, os ++ [(⟨8, A', 8, c', od.take 4 ++ Prox.sh1 st (od.drop 4)⟩ : Tcp.Opt)], A6, c6, by omega, by go_num, rfl, R7, by simp [LEN], OWN5, CON, B0e, B1e, B2e, hbe⟩
      obtain ⟨q5, hq5⟩ : ∃ q, (ok == 5) = q := ⟨_, rfl⟩
      obtain ⟨q8, hq8⟩ : ∃ q, (ok == 8) = q := ⟨_, rfl⟩
      obtain ⟨b1, hb1⟩ : ∃ b, ((on : Int) == 8) = b := ⟨_, rfl⟩
      obtain ⟨b2, hb2⟩ : ∃ b, ((on : Int) == 16) = b := ⟨_, rfl⟩
      obtain ⟨b3, hb3⟩ : ∃ b, ((on : Int) == 24) = b := ⟨_, rfl⟩
      obtain ⟨b4, hb4⟩ : ∃ b, ((on : Int) == 32) = b := ⟨_, rfl⟩
      have hno5 := Prox.no5 hq5 hb1 hb2 hb3 hb4 h5
      have hno8 := Prox.no8 hq8 hb1 hst
      go_wp2_with fail
      go_loopg [11] 1 (fun gg s11 wx => 0 < gg ∧ s11 = .int .i64 0 ∧ wa = wx)
      case atStart => exact ⟨by omega, rfl, rfl⟩
      case round =>
        obtain ⟨hg, rfl, rfl⟩ := hrel
        have HQ : Hid ((Prox.there s st) (ok, od) = (ok, od)) := Lib.hid (Prox.there_no s st ok od on HLEN.out h5 hst)
        have NEW : Hid (OptX w W1 wa ⟨ok, oA, on, oc, od⟩) := Lib.hid (.inl HOKH.out)
        have HBZ := Lib.hid hba
        go_upto_region 12 with fail
        go_cut [78] (fun s78 wx => s78 = .bool false ∧ wa = wx)
        case first =>
          cases q5 with
          | false =>
            go_wp2_with fail
            go_meet
            exact ⟨rfl, rfl⟩
          | true =>
            simp only [Bool.true_and, Bool.or_eq_false_iff] at hno5
            obtain ⟨⟨⟨rfl, rfl⟩, rfl⟩, rfl⟩ := hno5
            go_wp2_with fail
            go_meet
            exact ⟨rfl, rfl⟩
        case rest =>
        obtain ⟨rfl, rfl⟩ := hcut
        go_upto_region 15 with fail
        go_cut [97] (fun s97 wx => s97 = .bool false ∧ wa = wx)
        case first =>
          cases q8 with
          | false =>
            go_wp2_with fail
            go_meet
            exact ⟨rfl, rfl⟩
          | true =>
            simp only [Bool.true_and] at hno8
            subst hno8
            go_wp2_with fail
            go_meet
            exact ⟨rfl, rfl⟩
        case rest =>
        obtain ⟨rfl, rfl⟩ := hcut
        go_upto_region 17 with fail
        go_cut [114] (fun s114 wx => s114 = .bool false ∧ wa = wx)
        case first =>
          cases q8 with
          | false =>
            go_wp2_with fail
            go_meet
            exact ⟨rfl, rfl⟩
          | true =>
            simp only [Bool.true_and] at hno8
            subst hno8
            go_wp2_with fail
            go_meet
            exact ⟨rfl, rfl⟩
        case rest =>
        obtain ⟨rfl, rfl⟩ := hcut
        go_upto_region 19 with fail
        clear c0 c1 d0 d1

        have R4H := Lib.hid (own_below HROW.out HBZ.out)
        have OWN4 : Hid (∀ o ∈ os, OptX w W1 wa o) := Lib.hid fun o hm => (hown.out o hm).below HBZ.out
        have hb4 := bel_then hbx HBZ.out
        have hb4s := hb4.size
        clear HROW hown
        go_wp2_with (first | (refine wpList_ldB 62 _ _ (by with_reducible rfl) rfl (by rfl) BA Tryd.underlying62 rfl (opt_size (by rfl)) ?_) | (at_builtin; refine wpList_app _ rfl (.tmp 125) (.tmp 127) 26 rfl W1 (by exact hb4.alloc hb4s _) 62 (.agg #[.int .i64 0, .slice none 0 0]) 2 32 Tryd.underlying26 opt_info rfl (by decide) (.slice A5 i c5) i (optCells os) rfl (by exact R4H.out.alloc _) (some ⟨_, 0, none⟩) 1 1 [.int .i64 ok, .slice oA on oc] rfl (by exact rd_pair _ _ _ _) (one_opt _ _ _ _) (by unfold maxLen; omega) (by omega) ?_; intro A6 c6 we R6 hbe hge hat))
        have B0e := (B0a.alloc (.cells #[.int .i64 ok, .slice oA on oc] 62)).grownN hge (fun k hk => by have := (R4H.out.lt k hk).1; omega)
        have B1e := (B1a.alloc (.cells #[.int .i64 ok, .slice oA on oc] 62)).grownN hge (fun k hk => by have := (R4H.out.lt k hk).1; omega)
        have B2e := (B2a.alloc (.cells #[.int .i64 ok, .slice oA on oc] 62)).grownN hge (fun k hk => by have := (R4H.out.lt k hk).1; omega)
        have hal := (Below.refl wa.heap.size wa).alloc (Nat.le_refl _) (.cells #[.int .i64 ok, .slice oA on oc] 62)
        have OWN5 : Hid (∀ o ∈ os ++ [(⟨ok, oA, on, oc, od⟩ : Tcp.Opt)], OptX w W1 we o) := Lib.hid fun o hm => by
          rcases List.mem_append.1 hm with h | h
          · exact ((OWN4.out o h).below hal).app (R4H.out.alloc _) hge
          · rw [List.mem_singleton] at h
            subst h
            exact (NEW.out.below hal).app (R4H.out.alloc _) hge
        have CON : Hid ((os ++ [(⟨ok, oA, on, oc, od⟩ : Tcp.Opt)]).map Tcp.Opt.con = ((opts.take (i + 1)).map Tcp.Opt.con).map (Prox.there s st)) := Lib.hid (by
          have htk : opts.take (i + 1) = opts.take i ++ opts[i]?.toList := List.take_add_one
          rw [htk, HG.out, List.map_append, List.map_append, List.map_append, hcon.out]
          simp only [List.map_cons, List.map_nil, Tcp.Opt.con, Option.toList_some]
          congr 2
          exact HQ.out.symm)
        have R7 : we.ownsRow W1.heap.size 62 2 (.slice A6 (i + 1) c6) (i + 1) (optCells (os ++ [(⟨ok, oA, on, oc, od⟩ : Tcp.Opt)])) := by rw [optCells_snoc]; exact R6
        have LEN := HOL.out
        clear BA OWN4 NEW B0a B1a B2a hb4 R4H R6 hge hat hal hcon HOL
        go_roundg g2
        case measure => omega
        case rel => exact ⟨i + 1, os ++ [(⟨ok, oA, on, oc, od⟩ : Tcp.Opt)], A6, c6, by omega, by go_num, rfl, R7, by simp [LEN], OWN5, CON, B0e, B1e, B2e, hbe⟩
end Go.Proofs.YtpidpbjbgjkaaaaDoor
