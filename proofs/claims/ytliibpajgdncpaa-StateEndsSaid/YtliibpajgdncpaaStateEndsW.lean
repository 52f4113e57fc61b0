/- The walk of the law StateEnds. -/
import Derived.Test.YtliibpajgdncpaaStateAwake
import Derived.Test.YtliibpajgdncpaaStateBits
import Derived.Test.YtliibpajgdncpaaStateEndsP
import Derived.Test.YtliibpajgdncpaaTcpShort
import Derived.Test.YtliibpajgdncpaaStateEq
import Derived.Test.YtliibpajgdncpaaWordOpen
import Derived.Deep.LoopGhost
import Derived.Deep.DeepCutAuto
import Derived.BigQuiet
namespace Go.Proofs.Ytliibpajgdncpaa
open Go.RowKit
set_option linter.unusedVariables false
attribute [local go_sem] eq_bool2 eq_u32x2
/-- what lies in memory behind the step: the connection, the flags, the word, the new connection -/
structure EMem (w1 wx : World) (g7 g8 : Nat) (c d : State.C) (s0 s1 : Bool) (sd : Int) (t : Tcp.T) : Prop where
  bel : Below w1.heap.size w1 wx
  bc : Blk wx w1.heap.size 26 c.cells
  bs : Blk wx (w1.heap.size + 1) 22 [.bool s0, .bool s1]
  bw : Blk wx g7 40 [.int .i64 sd, .int .i64 t.sp, .int .i64 t.dp, .int .u32 t.sq, .int .u32 t.ak, .int .i64 t.fl, .int .i64 t.wi, .int .i64 t.ur, .slice t.Ao t.no t.co, .slice t.Ab t.nb t.cb]
  bd : Blk wx g8 26 d.cells
  lo : w1.heap.size + 2 ≤ g7
  hi : g7 < g8
theorem EMem.later {w1 wx wy : World} {g7 g8 : Nat} {c d : State.C} {s0 s1 : Bool} {sd : Int} {t : Tcp.T} (h : EMem w1 wx g7 g8 c d s0 s1 sd t) (hb : Below wx.heap.size wx wy) : EMem w1 wy g7 g8 c d s0 s1 sd t :=
  ⟨bel_then h.bel hb, h.bc.later hb, h.bs.later hb, h.bw.later hb, h.bd.later hb, h.lo, h.hi⟩
theorem EMem.drewN {w1 wx : World} {g7 g8 : Nat} {c d : State.C} {s0 s1 : Bool} {sd : Int} {t : Tcp.T} (h : EMem w1 wx g7 g8 c d s0 s1 sd t) (k : Nat) : EMem w1 (wx.drewN k) g7 g8 c d s0 s1 sd t :=
  ⟨Below.drewN h.bel k, h.bc, h.bs, h.bw, h.bd, h.lo, h.hi⟩
theorem EMem.put0 {w1 wx : World} {g7 g8 : Nat} {c d : State.C} {s0 s1 : Bool} {sd : Int} {t : Tcp.T} (h : EMem w1 wx g7 g8 c d s0 s1 sd t) (v : Bool) : EMem w1 (wx.setCell ⟨w1.heap.size + 1, 0, none⟩ (.bool v)) g7 g8 c d v s1 sd t :=
  ⟨h.bel.setCell (by simp) _, h.bc.other (by simp) _, h.bs.put 0 _, h.bw.other (by have := h.lo; simp; omega) _, h.bd.other (by have := h.lo; have := h.hi; simp; omega) _, h.lo, h.hi⟩
theorem EMem.put1 {w1 wx : World} {g7 g8 : Nat} {c d : State.C} {s0 s1 : Bool} {sd : Int} {t : Tcp.T} (h : EMem w1 wx g7 g8 c d s0 s1 sd t) (v : Bool) : EMem w1 (wx.setCell ⟨w1.heap.size + 1, 1, none⟩ (.bool v)) g7 g8 c d s0 v sd t :=
  ⟨h.bel.setCell (by simp) _, h.bc.other (by simp) _, h.bs.put 1 _, h.bw.other (by have := h.lo; simp; omega) _, h.bd.other (by have := h.lo; have := h.hi; simp; omega) _, h.lo, h.hi⟩
theorem Blk.other7 {w : World} {g h : Nat} {T : TypeId} {xs : List Value} (hb : Blk w g T xs) (hne : h ≠ g) {y0 y1 y2 y3 y4 y5 y6 : Value} :
    Blk (((((((w.setCell ⟨h, 0, none⟩ y0).setCell ⟨h, 1, none⟩ y1).setCell ⟨h, 2, none⟩ y2).setCell ⟨h, 3, none⟩ y3).setCell ⟨h, 4, none⟩ y4).setCell ⟨h, 5, none⟩ y5).setCell ⟨h, 6, none⟩ y6) g T xs :=
  ((((((hb.other (a := ⟨h, 0, none⟩) hne y0).other (a := ⟨h, 1, none⟩) hne y1).other (a := ⟨h, 2, none⟩) hne y2).other (a := ⟨h, 3, none⟩) hne y3).other (a := ⟨h, 4, none⟩) hne y4).other (a := ⟨h, 5, none⟩) hne y5).other (a := ⟨h, 6, none⟩) hne y6
theorem sright_true (c : State.C) (w : World) (h : State.rightB c = true) : Calls Try.prog 14 #[.agg #[.int .i64 c.st, .bool c.f0, .bool c.f1, .int .u32 c.a0, .int .u32 c.a1, .bool c.k0, .bool c.k1]] w fun e w' => e = .returned (.bool true) ∧ Below w.heap.size w w' := by
  have := sright_spec c w
  rwa [h] at this
set_option maxRecDepth 8000 in
set_option maxHeartbeats 8000000 in
theorem ends_walk (A : Option Addr) (n c : Nat) (l : List Wd) (w : World) (hL : WordsRd w A n l) (hnc : n ≤ c) (hc : c ≤ 9223372036854775807) :
    Calls Try.prog 4 #[.slice A n c] w fun e w' => e = .returned (.bool true) ∧ Below w.heap.size w w' := by
  go_enter Try.func4, Try.ntmps4
  go_wp2_with fail
  refine (sawake w).mono ?_
  rintro e w1 ⟨rfl, hb1⟩
  have L1 := hL.below hb1
  clear hL
  go_wp2_with fail
  go_loopg [5, 6] n (fun gg s5 s6 wr => ∃ (k : Nat) (cc : State.C) (s0 s1 op : Bool), k ≤ n ∧ n - k ≤ gg ∧ s5 = .bool op ∧ s6 = .int .i64 k ∧ Below w1.heap.size w1 wr ∧ Blk wr w1.heap.size 26 cc.cells ∧ Blk wr (w1.heap.size + 1) 22 [.bool s0, .bool s1] ∧ Hid (State.Inv cc s0 s1 op))
  case atStart =>
    refine ⟨0, State.fresh, false, false, false, by omega, by omega, rfl, rfl, ?_, ?_, ?_, Lib.hid ?_⟩
    · exact ((Below.refl _ _).alloc (Nat.le_refl _) _).alloc (by simp) _
    · exact (Blk.new _ _ State.fresh.cells _ rfl).alloc _
    · exact Blk.new _ _ [.bool false, .bool false] _ (by simp)
    · exact ⟨by decide, by decide, by decide, by decide⟩
  case round =>
    obtain ⟨k, cc, s0, s1, op, hk, hg, rfl, rfl, hbr, BC, BS, HI⟩ := hrel
    by_cases hlt : k < n
    · by_cases h100 : k < 100
      · obtain ⟨b, off, sd, t, rfl, hbl, ht, hsd, q0, q1, q2, q3, q4, q5, q6, q7, q8, q9⟩ := (L1.below hbr).ten hlt
        go_wp2_with fail
        refine (short_spec t _ (ht.below (Below.alloc (Below.refl _ _) (Nat.le_refl _) _))).mono ?_
        rintro e w2 ⟨bb, rfl, hsh, hb2⟩
        have HSH := Lib.hid hsh
        have BC2 := (BC.alloc _).later hb2
        have BS2 := (BS.alloc _).later hb2
        have BW2 := (Blk.new wr 40 [.int .i64 sd, .int .i64 t.sp, .int .i64 t.dp, .int .u32 t.sq, .int .u32 t.ak, .int .i64 t.fl, .int .i64 t.wi, .int .i64 t.ur, .slice t.Ao t.no t.co, .slice t.Ab t.nb t.cb] _ rfl).later hb2
        have hbA : Below w1.heap.size w1 w2 := (hbr.alloc hbr.size _).trans (hb2.mono (by have := hbr.size; simp; omega))
        have hs2 : w1.heap.size + 2 ≤ wr.heap.size := BS.lt
        clear BC BS q0 q1 q2 q3 q4 q5 q6 q7 q8 q9 hsh ht
        cases bb
        · go_wp2_with fail
          go_ret
          exact ⟨rfl, bel_then hb1 hbA⟩
        have hnt := (HSH.out rfl).1
        obtain ⟨d, ok, hst⟩ : ∃ d ok, State.step cc (State.said sd t.sq t.ak t.fl t.nb) = (d, ok) := ⟨_, _, rfl⟩
        have hstep := fun w => step_at cc d ok sd t.sp t.dp t.sq t.ak t.fl t.wi t.ur t.Ao t.no t.co t.Ab t.nb t.cb w (by omega) hst
        have HE : Hid (State.Ends cc (State.said sd t.sq t.ak t.fl t.nb) d ok s0 s1 op) := Lib.hid (by
          have := State.ends_of HI.out (State.step_does (w := State.said sd t.sq t.ak t.fl t.nb) HI.out.right) (fun h => State.step_side h)
          rw [hst] at this
          exact this)
        clear hst HSH
        obtain ⟨b0, b1, b2, b3, b4, b5, b6⟩ := cells7 BC2
        have x0 := BW2.cell (i := 0) rfl
        have x1 := BW2.cell (i := 1) rfl
        have x2 := BW2.cell (i := 2) rfl
        have x3 := BW2.cell (i := 3) rfl
        have x4 := BW2.cell (i := 4) rfl
        have x5 := BW2.cell (i := 5) rfl
        have x6 := BW2.cell (i := 6) rfl
        have x7 := BW2.cell (i := 7) rfl
        have x8 := BW2.cell (i := 8) rfl
        have x9 := BW2.cell (i := 9) rfl
        go_wp2_with fail
        refine (hstep _).mono ?_
        rintro e w3 ⟨rfl, hb3⟩
        clear hstep b0 b1 b2 b3 b4 b5 b6 x0 x1 x2 x3 x4 x5 x6 x7 x8 x9
        have M : EMem w1 (w3.alloc (.cells #[.int .i64 d.st, .bool d.f0, .bool d.f1, .int .u32 d.a0, .int .u32 d.a1, .bool d.k0, .bool d.k1] 26)) wr.heap.size w3.heap.size cc d s0 s1 sd t :=
          ⟨(bel_then hbA hb3).alloc (bel_then hbA hb3).size _, (BC2.later hb3).alloc _, (BS2.later hb3).alloc _, (BW2.later hb3).alloc _, Blk.new w3 _ d.cells _ rfl, hs2, by have := (BW2.later hb3).lt; omega⟩
        go_upto_region 13 with fail
        obtain ⟨W4, hW4⟩ : ∃ W4, W4 = w3.alloc (.cells #[.int .i64 d.st, .bool d.f0, .bool d.f1, .int .u32 d.a0, .int .u32 d.a1, .bool d.k0, .bool d.k1] 26) := ⟨_, rfl⟩
        rw [← hW4] at M ⊢
        clear hW4 BC2 BS2 BW2 hbA hb3 hb2
        obtain ⟨g7, hg7⟩ : ∃ g7, g7 = wr.heap.size := ⟨_, rfl⟩
        obtain ⟨g8, hg8⟩ : ∃ g8, g8 = w3.heap.size := ⟨_, rfl⟩
        rw [← hg7, ← hg8] at M
        rw [← hg7, ← hg8]
        have HG7 := Lib.hid hg7
        have HG8 := Lib.hid hg8
        clear hg7 hg8
        go_cut [51] (fun s51 wx => s51 = .bool false ∧ EMem w1 wx g7 g8 cc d s0 s1 sd t)
        case first =>
          as_aux_lemma =>
          have hg1 := M.lo
          have hg2 := M.hi
          obtain ⟨b0, b1, b2, b3, b4, b5, b6⟩ := cells7 M.bd
          cases ok
          · have hk := HE.out.kept rfl
            subst hk
            obtain ⟨c0, c1, c2, c3, c4, c5, c6⟩ := cells7 M.bc
            go_wp2_with fail
            refine (sright_true _ _ HE.out.inv.right).mono ?_
            rintro e w5 ⟨rfl, hb5⟩
            go_wp2_with fail
            go_meet
            exact ⟨rfl, M.later hb5⟩
          · go_wp2_with fail
            refine (sright_true _ _ HE.out.inv.right).mono ?_
            rintro e w5 ⟨rfl, hb5⟩
            go_wp2_with fail
            go_meet
            exact ⟨rfl, M.later hb5⟩
        case rest =>
        clear M
        obtain ⟨rfl, M⟩ := hcut
        go_upto_region 15 with fail
        go_cut [62] (fun s62 wx => s62 = .bool (State.anew cc d ok) ∧ wx = wc)
        case first =>
          as_aux_lemma =>
          have hg1 := M.lo
          have hg2 := M.hi
          have b0 := M.bd.cell (i := 0) rfl
          have c0 := M.bc.cell (i := 0) rfl
          cases ok
          · go_wp2_with fail
            go_meet
            exact ⟨rfl, rfl⟩
          · cases h1 : (d.st == 1)
            · have HA : Hid (State.anew cc d true = false) := Lib.hid (by unfold State.anew; rw [h1]; rfl)
              go_wp2_with fail
              go_meet
              exact ⟨by rw [HA.out], rfl⟩
            · cases h2 : (cc.st != 1)
              · have HA : Hid (State.anew cc d true = false) := Lib.hid (by unfold State.anew; rw [h1, h2]; rfl)
                go_wp2_with fail
                go_meet
                exact ⟨by rw [HA.out], rfl⟩
              · have HA : Hid (State.anew cc d true = true) := Lib.hid (by unfold State.anew; rw [h1, h2]; rfl)
                go_wp2_with fail
                go_meet
                exact ⟨by rw [HA.out], rfl⟩
        case rest =>
        obtain ⟨rfl, rfl⟩ := hcut
        go_upto_if 62 with fail
        go_cut [5] (fun s5 wx => s5 = .bool (op && !State.anew cc d ok) ∧ EMem w1 wx g7 g8 cc d (s0 && !State.anew cc d ok) (s1 && !State.anew cc d ok) sd t)
        case first =>
          as_aux_lemma =>
          have hg1 := M.lo
          have hg2 := M.hi
          have z0 := M.bs.unfrozen 0
          have z1 := M.bs.unfrozen 1
          have y0 := M.bs.cell (i := 0) rfl
          have y1 := M.bs.cell (i := 1) rfl
          have hgs := M.bs.lt
          cases ha : State.anew cc d ok
          · have HA := Lib.hid ha
            clear ha
            go_wp2_with fail
            go_meet
            rw [HA.out]
            exact ⟨by simp, by simpa using M⟩
          · have HA := Lib.hid ha
            clear ha
            go_wp2_with fail
            go_meet
            rw [HA.out]
            exact ⟨by simp, by simpa using (M.put0 false).put1 false⟩
        case rest =>
        clear M
        obtain ⟨rfl, M⟩ := hcut
        go_upto_region 17 with fail
        go_cut [78] (fun s78 wx => s78 = .bool (ok && (State.has t.fl 2 && !State.has t.fl 4)) ∧ wx = wc)
        case first =>
          as_aux_lemma =>
          have hg1 := M.lo
          have hg2 := M.hi
          have x5 := M.bw.cell (i := 5) rfl
          cases ok
          · go_wp2_with fail
            go_meet
            exact ⟨rfl, rfl⟩
          · cases h1 : (bits .and .i64 t.fl 2 != 0)
            · have H1 : Hid (State.has t.fl 2 = false) := Lib.hid h1
              go_wp2_with fail
              go_meet
              exact ⟨by rw [H1.out]; rfl, rfl⟩
            · have H1 : Hid (State.has t.fl 2 = true) := Lib.hid h1
              cases h2 : (bits .and .i64 t.fl 4 == 0)
              · have H2 : Hid (State.has t.fl 4 = true) := Lib.hid (by unfold State.has bne; rw [h2]; rfl)
                go_wp2_with fail
                go_meet
                exact ⟨by rw [H1.out, H2.out]; rfl, rfl⟩
              · have H2 : Hid (State.has t.fl 4 = false) := Lib.hid (by unfold State.has bne; rw [h2]; rfl)
                go_wp2_with fail
                go_meet
                exact ⟨by rw [H1.out, H2.out]; rfl, rfl⟩
        case rest =>
        obtain ⟨rfl, rfl⟩ := hcut
        go_upto_if 78 with fail
        go_cut [5] (fun s5 wx => s5 = .bool (op && !State.anew cc d ok) ∧ EMem w1 wx g7 g8 cc d (State.syn0 cc (State.said sd t.sq t.ak t.fl t.nb) d ok s0) (State.syn1 cc (State.said sd t.sq t.ak t.fl t.nb) d ok s1) sd t)
        case first =>
          as_aux_lemma =>
          have hg1 := M.lo
          have hg2 := M.hi
          have z0 := M.bs.unfrozen 0
          have z1 := M.bs.unfrozen 1
          have y0 := M.bs.cell (i := 0) rfl
          have y1 := M.bs.cell (i := 1) rfl
          have x0 := M.bw.cell (i := 0) rfl
          have hgs := M.bs.lt
          have HS : Hid (ok = true → sd = 0 ∨ sd = 1) := Lib.hid HE.out.side
          have HQ0 : Hid (State.syn0 cc (State.said sd t.sq t.ak t.fl t.nb) d ok s0 = ((s0 && !State.anew cc d ok) || (ok && (State.has t.fl 2 && !State.has t.fl 4) && sd == 0))) := Lib.hid (by unfold State.syn0 State.said; simp only; cases ok <;> cases State.has t.fl 2 <;> cases State.has t.fl 4 <;> rfl)
          have HQ1 : Hid (State.syn1 cc (State.said sd t.sq t.ak t.fl t.nb) d ok s1 = ((s1 && !State.anew cc d ok) || (ok && (State.has t.fl 2 && !State.has t.fl 4) && !(sd == 0)))) := Lib.hid (by unfold State.syn1 State.said; simp only; cases ok <;> cases State.has t.fl 2 <;> cases State.has t.fl 4 <;> rfl)
          have HO := Lib.hid (show ok = true → (ok && (State.has t.fl 2 && !State.has t.fl 4)) = (State.has t.fl 2 && !State.has t.fl 4) from fun h => by rw [h]; rfl)
          cases ha : (ok && (State.has t.fl 2 && !State.has t.fl 4))
          · have HA := Lib.hid ha
            clear ha
            go_wp2_with fail
            go_meet
            rw [HQ0.out, HQ1.out, HA.out]
            exact ⟨rfl, by simpa using M⟩
          · have HA := Lib.hid ha
            have hok : ok = true := by cases ok <;> simp at ha ⊢
            clear ha
            rcases HS.out hok with rfl | rfl
            · clear hok
              go_wp2_with fail
              go_meet
              rw [HQ0.out, HQ1.out, HA.out]
              exact ⟨rfl, by simpa using M.put0 true⟩
            · clear hok
              go_wp2_with fail
              go_meet
              rw [HQ0.out, HQ1.out, HA.out]
              exact ⟨rfl, by simpa using M.put1 true⟩
        case rest =>
        clear M
        obtain ⟨rfl, M⟩ := hcut
        go_upto_region 19 with fail
        go_cut [102] (fun s102 wx => s102 = .bool (ok && sd == 0 && (!State.has t.fl 2 && State.has t.fl 16 && !State.has t.fl 4) && State.syn0 cc (State.said sd t.sq t.ak t.fl t.nb) d ok s0 && State.syn1 cc (State.said sd t.sq t.ak t.fl t.nb) d ok s1) ∧ wx = wc)
        case first =>
          as_aux_lemma =>
          have hg1 := M.lo
          have hg2 := M.hi
          have x0 := M.bw.cell (i := 0) rfl
          have x5 := M.bw.cell (i := 5) rfl
          have y0 := M.bs.cell (i := 0) rfl
          have y1 := M.bs.cell (i := 1) rfl
          have HM := Lib.hid (State.mask22 t.fl)
          cases ok
          · go_wp2_with fail
            go_meet
            exact ⟨rfl, rfl⟩
          · cases h1 : (sd == 0)
            · have H1 := Lib.hid h1
              go_wp2_with fail
              go_meet
              rw [H1.out]
              exact ⟨rfl, rfl⟩
            · have H1 := Lib.hid h1
              cases h2 : (bits .and .i64 t.fl 22 == 16)
              · have H2 := Lib.hid h2
                go_wp2_with fail
                go_meet
                rw [H1.out, ← HM.out, H2.out]
                exact ⟨rfl, rfl⟩
              · have H2 := Lib.hid h2
                cases h3 : State.syn0 cc (State.said sd t.sq t.ak t.fl t.nb) d true s0
                · have H3 := Lib.hid h3
                  rw [h3] at y0
                  clear h3
                  go_wp2_with fail
                  go_meet
                  rw [H1.out, ← HM.out, H2.out, H3.out]
                  exact ⟨rfl, rfl⟩
                · have H3 := Lib.hid h3
                  rw [h3] at y0
                  clear h3
                  go_wp2_with fail
                  go_meet
                  rw [H1.out, ← HM.out, H2.out, H3.out]
                  exact ⟨by simp, rfl⟩
        case rest =>
        obtain ⟨rfl, rfl⟩ := hcut
        go_upto_if 102 with fail
        go_cut [5] (fun s5 wx => s5 = .bool (State.opn cc (State.said sd t.sq t.ak t.fl t.nb) d ok s0 s1 op) ∧ wx = wc)
        case first =>
          as_aux_lemma =>
          have HO : Hid (State.opn cc (State.said sd t.sq t.ak t.fl t.nb) d ok s0 s1 op = ((op && !State.anew cc d ok) || (ok && sd == 0 && (!State.has t.fl 2 && State.has t.fl 16 && !State.has t.fl 4) && State.syn0 cc (State.said sd t.sq t.ak t.fl t.nb) d ok s0 && State.syn1 cc (State.said sd t.sq t.ak t.fl t.nb) d ok s1))) := Lib.hid rfl
          cases ha : (ok && sd == 0 && (!State.has t.fl 2 && State.has t.fl 16 && !State.has t.fl 4) && State.syn0 cc (State.said sd t.sq t.ak t.fl t.nb) d ok s0 && State.syn1 cc (State.said sd t.sq t.ak t.fl t.nb) d ok s1)
          · have HA := Lib.hid ha
            clear ha
            go_wp2_with fail
            go_meet
            rw [HO.out, HA.out]
            exact ⟨by simp, rfl⟩
          · have HA := Lib.hid ha
            clear ha
            go_wp2_with fail
            go_meet
            rw [HO.out, HA.out]
            exact ⟨by simp, rfl⟩
        case rest =>
        obtain ⟨rfl, rfl⟩ := hcut
        have HV := HE.out.inv
        generalize State.opn cc (State.said sd t.sq t.ak t.fl t.nb) d ok s0 s1 op = op1 at HV ⊢
        generalize State.syn0 cc (State.said sd t.sq t.ak t.fl t.nb) d ok s0 = t0 at HV M ⊢
        generalize State.syn1 cc (State.said sd t.sq t.ak t.fl t.nb) d ok s1 = t1 at HV M ⊢
        have HI1 := Lib.hid HV
        have HKP := Lib.hid HE.out.keeps
        have HOV := Lib.hid HE.out.over
        clear HE HV HI
        go_upto_region 21 with fail
        go_cut [114] (fun s114 wx => s114 = .bool false ∧ wx = wc)
        case first =>
          as_aux_lemma =>
          have hg1 := M.lo
          have hg2 := M.hi
          have b0 := M.bd.cell (i := 0) rfl
          by_cases h3 : 3 ≤ d.st
          · by_cases h6 : d.st ≤ 6
            · have ho := HI1.out.opened h3 h6
              subst ho
              go_wp2_with fail
              go_meet
              exact ⟨rfl, rfl⟩
            · go_wp2_with fail
              go_meet
              exact ⟨rfl, rfl⟩
          · go_wp2_with fail
            go_meet
            exact ⟨rfl, rfl⟩
        case rest =>
        obtain ⟨rfl, rfl⟩ := hcut
        go_upto_region 23 with fail
        go_wp2_with fail
        go_loopw [10] (fun s10 wx => ∃ k2 : Nat, k2 ≤ 2 ∧ s10 = .int .i64 k2 ∧ EMem w1 wx g7 g8 cc d t0 t1 sd t) (fun s10 _ => 2 - (intOf s10).toNat)
        case atStart => exact ⟨0, by omega, rfl, M⟩
        case round =>
          clear M
          obtain ⟨k2, hk2, rfl, M⟩ := hrel
          rcases (show k2 = 0 ∨ k2 = 1 ∨ k2 = 2 by omega) with rfl | rfl | rfl
          · as_aux_lemma =>
            have hg1 := M.lo
            have hg2 := M.hi
            obtain ⟨b0, b1, b2, b3, b4, b5, b6⟩ := cells7 M.bd
            obtain ⟨c0, c1, c2, c3, c4, c5, c6⟩ := cells7 M.bc
            cases h1 : (d.st != 1)
            · skip
              go_wp2_with fail
              go_quiet (fail)
              go_wp2_with fail
              go_roundw
              case rel => exact ⟨1, by omega, rfl, M.drewN _⟩
              case measure => simp [intOf]
            · have hk := HKP.out (by simpa using h1)
              have HK := Lib.hid hk.s0
              clear hk
              cases hf : cc.f0
              · rw [hf] at c1
                clear hf
                go_wp2_with fail
                go_quiet (fail)
                go_wp2_with fail
                go_roundw
                case rel => exact ⟨1, by omega, rfl, M.drewN _⟩
                case measure => simp [intOf]
              · obtain ⟨e1, e2, e3⟩ := HK.out hf
                rw [hf] at c1
                rw [e1] at b1
                rw [e2] at b3
                have E3 := Lib.hid e3
                have ne : (cc.a0 != cc.a0) = false := by simp
                clear e1 e2 e3 hf
                cases hk : cc.k0
                · rw [hk] at c5
                  clear hk
                  go_wp2_with fail
                  go_quiet (fail)
                  go_wp2_with fail
                  go_roundw
                  case rel => exact ⟨1, by omega, rfl, M.drewN _⟩
                  case measure => simp [intOf]
                · rw [E3.out hk] at b5
                  rw [hk] at c5
                  clear hk
                  go_wp2_with fail
                  go_quiet (fail)
                  go_wp2_with fail
                  go_roundw
                  case rel => exact ⟨1, by omega, rfl, M.drewN _⟩
                  case measure => simp [intOf]
          · as_aux_lemma =>
            have hg1 := M.lo
            have hg2 := M.hi
            obtain ⟨b0, b1, b2, b3, b4, b5, b6⟩ := cells7 M.bd
            obtain ⟨c0, c1, c2, c3, c4, c5, c6⟩ := cells7 M.bc
            cases h1 : (d.st != 1)
            · skip
              go_wp2_with fail
              go_quiet (fail)
              go_wp2_with fail
              go_roundw
              case rel => exact ⟨2, by omega, rfl, M.drewN _⟩
              case measure => simp [intOf]
            · have hk := HKP.out (by simpa using h1)
              have HK := Lib.hid hk.s1
              clear hk
              cases hf : cc.f1
              · rw [hf] at c2
                clear hf
                go_wp2_with fail
                go_quiet (fail)
                go_wp2_with fail
                go_roundw
                case rel => exact ⟨2, by omega, rfl, M.drewN _⟩
                case measure => simp [intOf]
              · obtain ⟨e1, e2, e3⟩ := HK.out hf
                rw [hf] at c2
                rw [e1] at b2
                rw [e2] at b4
                have E3 := Lib.hid e3
                have ne : (cc.a1 != cc.a1) = false := by simp
                clear e1 e2 e3 hf
                cases hk : cc.k1
                · rw [hk] at c6
                  clear hk
                  go_wp2_with fail
                  go_quiet (fail)
                  go_wp2_with fail
                  go_roundw
                  case rel => exact ⟨2, by omega, rfl, M.drewN _⟩
                  case measure => simp [intOf]
                · rw [E3.out hk] at b6
                  rw [hk] at c6
                  clear hk
                  go_wp2_with fail
                  go_quiet (fail)
                  go_wp2_with fail
                  go_roundw
                  case rel => exact ⟨2, by omega, rfl, M.drewN _⟩
                  case measure => simp [intOf]
          go_upto_region 28 with fail
          go_cut [173] (fun s173 wx => s173 = .bool false ∧ EMem w1 wx g7 g8 cc d t0 t1 sd t)
          case first =>
            as_aux_lemma =>
            have hg1 := M.lo
            have hg2 := M.hi
            obtain ⟨b0, b1, b2, b3, b4, b5, b6⟩ := cells7 M.bd
            have c0 := M.bc.cell (i := 0) rfl
            by_cases h6 : 6 ≤ cc.st
            · rcases HOV.out h6 with h | h
              · have hne : (d.st != cc.st) = false := by rw [h]; simp
                clear h
                go_wp2_with fail
                go_meet
                exact ⟨rfl, M⟩
              · have hne : (d.st != cc.st) = true := by rw [h, bne_iff_ne]; unfold State.asked; simp only; omega
                subst h
                go_wp2_with fail
                go_meet
                exact ⟨rfl, M⟩
            · go_wp2_with fail
              go_meet
              exact ⟨rfl, M⟩
          case rest =>
          clear M
          obtain ⟨rfl, M⟩ := hcut
          have hg1 := M.lo
          have hg2 := M.hi
          obtain ⟨b0, b1, b2, b3, b4, b5, b6⟩ := cells7 M.bd
          obtain ⟨c0, c1, c2, c3, c4, c5, c6⟩ := cells7 M.bc
          obtain ⟨z0, z1, z2, z3, z4, z5, z6⟩ := frozen7 M.bc
          go_wp2_with fail
          go_roundg (n - (k + 1))
          case measure => omega
          case rel =>
            refine ⟨k + 1, d, t0, t1, op1, by omega, by omega, rfl, by go_num, ?_, ?_, ?_, HI1⟩
            · exact Below.put7 M.bel (Nat.le_refl _)
            · exact Blk.put7 M.bc
            · exact Blk.other7 M.bs (by omega)
      · go_wp2_with fail
        go_ret
        exact ⟨rfl, bel_then hb1 hbr⟩
    · go_wp2_with fail
      go_ret
      exact ⟨rfl, bel_then hb1 hbr⟩
end Go.Proofs.Ytliibpajgdncpaa
