/- The walk of IndexMap. -/
import Derived.Test.YtdfbfhejigifoaaIdxAwake
import Derived.Test.YtdfbfhejigifoaaIdxMapP
import Derived.Deep.DrawnRows
import Derived.Deep.DeepCutAuto
namespace Go.Proofs.Ytdfbfhejigifoaa
open Go.RowKit
set_option linter.unusedVariables false
attribute [local go_sem ↓] eq_key
theorem infoS : (Try.prog.info? 44).map (fun i => (i.zero, i.size, i.bytes)) = some (some (.agg #[.bool false, .int .i64 0, .int .u32 0, .int .i64 0, .int .u32 0, .int .i64 0, .int .i64 0]), 7, 56) := by kernel_rfl
structure MapI (w : World) (N : Nat) (T hv : List Idx.Cell) (A : Option Addr) (m : Nat) (B : Option Addr) (d : Nat) (wx : World) : Prop where
  tab : TabR wx A N T
  st : Idx.MSt N T hv
  own : wx.ownsRow w.heap.size 44 7 (.slice B m d) m (tcells hv)
  hl : hv.length = m
  wf : ∀ c ∈ hv, c.k.wf
  bel : Below w.heap.size w wx
theorem MapI.below {w : World} {N : Nat} {T hv : List Idx.Cell} {A : Option Addr} {m : Nat} {B : Option Addr} {d : Nat} {wx wy : World} (h : MapI w N T hv A m B d wx) (hb : Below wx.heap.size wx wy) : MapI w N T hv A m B d wy :=
  ⟨h.tab.below hb, h.st, own_below h.own hb, h.hl, h.wf, bel_then h.bel hb⟩
theorem MapI.rd {w : World} {N : Nat} {T hv : List Idx.Cell} {A : Option Addr} {m : Nat} {B : Option Addr} {d : Nat} {wx : World} (h : MapI w N T hv A m B d wx) : TabR wx B m hv := ⟨h.hl, h.wf, Rd.of_own h.own⟩
theorem one_cells (c : Idx.Cell) : ∀ u ∈ c.cells, u.oneCell' = true := by
  have := one_tcells [c]
  simpa [tcells] using this
theorem rd_step (w : World) (x : Idx.Cell) (e : TypeId) : Rd (w.alloc (.cells #[.bool x.u, .int .i64 x.k.pr, .int .u32 x.k.sr, .int .i64 x.k.sp, .int .u32 x.k.ds, .int .i64 x.k.dp, .int .i64 x.n] e)) 7 (some ⟨w.heap.size, 0, none⟩) 1 x.cells := by
  refine ⟨rfl, fun _ => ⟨_, _, rfl, by simp, fun j u hu => ?_⟩⟩
  rw [cell_of_row _ _ (0 + j) _ _ (0, 0) (heap_alloc_new w _)]
  simpa [Idx.Cell.cells] using hu
theorem tcells_snoc (l : List Idx.Cell) (c : Idx.Cell) : tcells l ++ c.cells = tcells (l ++ [c]) := by simp [tcells]
theorem own_lit0 (w0 w : World) (e : TypeId) (size g : Nat) (hb : w.heap.size ≤ w0.heap.size) (hg : g = w0.heap.size) : (w0.alloc (.cells #[] e)).ownsRow w.heap.size e size (.slice (some ⟨g, 0, none⟩) 0 0) 0 [] := by
  subst hg
  have := World.ownsRow_lit (base := w.heap.size) (e := e) (size := size) w0 #[] 0 hb (Nat.zero_le _) (by simp)
  simpa using this
theorem step_app {P : Program} (w : World) {ops : Array Oper} {o : Oper} {a : Act} {K : Act → World → Prop} {E : Prop} (hw : Region.wanted o (yielded ops a.tmps) = true) (s x : Operand) (t : TypeId)
    {Q : Exit → Act → World → Prop}
    (ho : o.op = .call { callee := .builtin .append, args := #[s, x], argTypes := #[t, t] })
    (a0 : World) (hbel : Below a0.heap.size a0 w) (e : TypeId) (z : Value) (size bytes : Nat) (ht : P.underlying t = some (.slice e))
    (hinfo : (P.info? e).map (fun i => (i.zero, i.size, i.bytes)) = some (some z, size, bytes)) (hzs : z.cells.size = size) (hsz : 0 < size)
    (v : Value) (n : Nat) (xs : List Value) (hs : a.eval s = v) (hown : w.ownsRow a0.heap.size e size v n xs)
    (A : Option Addr) (m c : Nat) (news : List Value) (hx : a.eval x = .slice A m c) (hr : Rd w size A m news) (h1 : ∀ u ∈ news, u.oneCell' = true)
    (h63 : n + m ≤ maxLen) (hbytes : (n + m) * bytes ≤ 140737488355328)
    (h : ∀ A' c' w', w'.ownsRow a0.heap.size e size (.slice A' (n + m) c') (n + m) (xs ++ news) → Below a0.heap.size a0 w' → w.grownBy w' v.ownBlock → K (a.put o.dst (.slice A' (n + m) c')) w') :
    if Region.wanted o (yielded ops a.tmps) = true then Oper.wp P o a w K Q else E := by
  rw [if_pos hw]
  obtain ⟨i, hi, hz, hsize, hby⟩ := info_parts hinfo
  obtain ⟨A', c', w', hrun, h2, h3, h4⟩ := run_append_rd (P := P) w a0.heap.size t o.type e i z size bytes ht hi hz hsize hby hzs hsz _ n xs hown A m c news hr h1 h63 hbytes hbel.size
  unfold Oper.wp execOp
  simp only [ho, resolve, invoke, builtin, Sem.run_bind, Sem.run_pure, Result.andThen_ok, List.map_toArray, List.map_cons, List.map_nil, hs, hx, hrun]
  exact h A' c' w' h2 (hbel.grown h3 hbel.size (fun g hg => (hown.lt g hg).1)) h3
theorem Rd.sub7 {w : World} {m : Nat} {b off : Nat} {l : List Idx.Cell} (h : Rd w 7 (some ⟨b, off, none⟩) m (tcells l)) (hl : l.length = m) (i k : Nat) (hi : i + k ≤ m) : Rd w 7 (some ⟨b, off + i * 7, none⟩) k (tcells ((l.drop i).take k)) := by
  refine ⟨by rw [tcells_len, List.length_take, List.length_drop]; congr 1; omega, fun hk => ?_⟩
  obtain ⟨b', off', e, hb, hc⟩ := h.2 (by omega)
  injection e with e
  injection e with e1 e2
  subst e1 e2
  refine ⟨_, _, rfl, hb, fun j u hu => ?_⟩
  have hsp : tcells l = tcells (l.take i) ++ (tcells ((l.drop i).take k) ++ tcells ((l.drop i).drop k)) := by
    rw [← tcells_app, List.take_append_drop, ← tcells_app, List.take_append_drop]
  have hlen : (tcells (l.take i)).length = i * 7 := by rw [tcells_len, List.length_take, Nat.min_eq_left (by omega)]
  have := hc (i * 7 + j) u (by
    rw [hsp, List.getElem?_append_right (by omega), hlen, List.getElem?_append_left (by have := (List.getElem?_eq_some_iff.1 hu).1; omega), show i * 7 + j - i * 7 = j by omega]
    exact hu)
  rw [← Nat.add_assoc] at this
  exact this
theorem TabR.grown {w w' : World} {A : Option Addr} {n : Nat} {l : List Idx.Cell} {v : Value} (h : TabR w A n l) (hg : w.grownBy w' v.ownBlock) (hne : ∀ a g, A = some a → v.ownBlock = some g → a.block ≠ g) : TabR w' A n l :=
  ⟨h.len, h.wf, h.rd.1, fun hn => by
    obtain ⟨b, off, e, hb, hc⟩ := h.rd.2 hn
    refine ⟨b, off, e, Nat.lt_of_lt_of_le hb hg.size, fun j u hu => ?_⟩
    have := hg.block b hb (fun hh => hne _ b e hh.symm rfl)
    rw [World.cell?_of_block (w := w) (a := ⟨b, off + j, none⟩) this]
    exact hc j u hu⟩
theorem own_hd {w : World} {base : Nat} {e : TypeId} {s n c : Nat} {A : Option Addr} {xs : List Value} (h : w.ownsRow base e s (.slice A n c) n xs) (hn : 0 < n) : ∃ g, A = some ⟨g, 0, none⟩ ∧ n ≤ c := by
  rcases h.2 with ⟨hv, h0⟩ | ⟨g, cap, cur, hv, hb, hg, h1, _⟩
  · omega
  · injection hv with hA _ hc
    subst hc
    exact ⟨g, hA, h1⟩
def SrchR (hv : List Idx.Cell) (k : Idx.Key) (kk : Nat) (s9 : Value) : Prop := (s9 = .int .i64 (-1) ∧ ∀ i, i < kk → (Idx.at' hv i).k ≠ k) ∨ ∃ i0 : Nat, i0 < kk ∧ s9 = .int .i64 i0 ∧ (Idx.at' hv i0).k = k
theorem SrchR.miss {hv : List Idx.Cell} {k : Idx.Key} {kk : Nat} {s9 : Value} (h : SrchR hv k kk s9) (hne : (Idx.at' hv kk).k ≠ k) : SrchR hv k (kk + 1) s9 := by
  rcases h with ⟨h1, h2⟩ | ⟨i0, h1, h2, h3⟩
  · refine .inl ⟨h1, fun i hi => ?_⟩
    by_cases e : i = kk
    · subst e; exact hne
    · exact h2 i (by omega)
  · exact .inr ⟨i0, by omega, h2, h3⟩
set_option maxRecDepth 100000 in
set_option maxHeartbeats 16000000 in
theorem IndexMap_walk (x : Int) (A0 : Option Addr) (n c0 : Nat) (l : List Idx.Cell) (w : World) (hx0 : -9223372036854775808 ≤ x) (hx1 : x ≤ 9223372036854775807) (hT : TabR w A0 n l) (hn : n ≤ 9223372036854775807) :
    Calls Try.prog 4 #[.int .i64 x, .slice A0 n c0] w fun e w' => e = .returned (.bool true) ∧ Below w.heap.size w w' := by
  have HAW := Lib.hid (idx_awake w)
  have HT0 := Lib.hid hT
  have hl := Lib.hid hT.len
  clear hT
  by_cases hbig : 64 < x ∨ 150 < n
  · rcases Int.lt_or_le 64 x with h1 | h1
    · go_enter Try.func4, Try.ntmps4
      go_wp2_with fail
      refine HAW.out.mono ?_
      rintro e w1 ⟨rfl, hb⟩
      go_wp2_with fail
      go_ret
      exact ⟨rfl, hb⟩
    · have h1' : ¬ 64 < x := by omega
      have h2 : (150 : Int) < (n : Int) := by omega
      go_enter Try.func4, Try.ntmps4
      go_wp2_with fail
      refine HAW.out.mono ?_
      rintro e w1 ⟨rfl, hb⟩
      go_wp2_with fail
      go_ret
      exact ⟨rfl, hb⟩
  · have h1 : ¬ 64 < x := by omega
    have h2 : ¬ (150 : Int) < (n : Int) := by omega
    have hn150 : n ≤ 150 := by omega
    have hx64 : x ≤ 64 := by omega
    clear hbig
    cases hs : Idx.size x
    · have HNW := Lib.hid (fun w1 => new_no x w1 hx0 hx1 hs)
      clear hs
      go_enter Try.func4, Try.ntmps4
      go_wp2_with fail
      refine HAW.out.mono ?_
      rintro e w1 ⟨rfl, hb⟩
      go_wp2_with fail
      refine (HNW.out w1).mono ?_
      rintro e w2 ⟨rfl, rfl⟩
      go_wp2_with fail
      go_ret
      exact ⟨rfl, hb⟩
    · have hsb := Idx.size_bd hs
      obtain ⟨N, rfl⟩ := Int.eq_ofNat_of_zero_le (a := x) (by omega)
      have HS := Lib.hid hs
      clear hs
      go_enter Try.func4, Try.ntmps4
      go_wp2_with fail
      refine HAW.out.mono ?_
      rintro e w1 ⟨rfl, hb⟩
      have HB1 := Lib.hid hb
      have HNW := Lib.hid (new_yes N w1 HS.out)
      clear hb HAW
      go_wp2_with fail
      refine HNW.out.mono ?_
      rintro e w2 ⟨g, rfl, hT, hb⟩
      have HB2 := Lib.hid (bel_then HB1.out hb)
      have HI : Hid (MapI w N (List.replicate N Idx.Cell.nil) [] (some ⟨g, 0, none⟩) 0 none 0 w2) := Lib.hid ⟨hT, Idx.MSt.new HS.out, ⟨rfl, .inl ⟨rfl, rfl⟩⟩, rfl, by simp, HB2.out⟩
      clear hT hb HNW HB1
      go_wp2_with fail
      go_loopg [5, 7, 8] n (fun gg s5 s7 s8 wx => ∃ (j : Nat) (A : Option Addr) (c : Nat) (T hv : List Idx.Cell) (m : Nat) (B : Option Addr) (d : Nat), j ≤ n ∧ n - j ≤ gg ∧ m ≤ j ∧ s8 = .int .i64 j ∧ s5 = .slice A N c ∧ s7 = .slice B m d ∧ Aside (MapI w N T hv A m B d wx))
      case atStart => exact ⟨0, some ⟨g, 0, none⟩, N, _, _, 0, none, 0, by omega, by omega, by omega, rfl, rfl, rfl, HI.out⟩
      case round =>
        obtain ⟨j, A, c, T, hv, m, B, d, hj, hg, hmj, rfl, rfl, rfl, BI⟩ := hrel
        clear HI HB2
        by_cases hlt : j < n
        · have hltz : (j : Int) < (n : Int) := by omega
          have HI := Lib.hid BI.out
          clear BI
          have HK := Lib.hid (HT0.out.keyf j)
          generalize wr = w3 at *
          -- the search
          obtain ⟨kj, hkj⟩ : ∃ kj, kj = (Idx.at' l j).k := ⟨_, rfl⟩
          have HKJ := Lib.hid hkj
          clear hkj
          have hmz : m ≤ 150 := by omega
          go_wp2_with fail
          go_loopg [9, 10] m (fun gg s9 s10 wx => ∃ kk : Nat, kk ≤ m ∧ m - kk ≤ gg ∧ s10 = .int .i64 kk ∧ Aside (SrchR hv kj kk s9) ∧ Aside (Below w3.heap.size w3 wx))
          case atStart => exact ⟨0, by omega, by omega, rfl, (show Aside _ from .inl ⟨rfl, fun i hi => by omega⟩), Below.refl _ _⟩
          case round =>
            obtain ⟨kk, hkk, hg2, rfl, BS, BW⟩ := hrel
            by_cases hlt2 : kk < m
            · have hlt2z : (kk : Int) < (m : Int) := by omega
              obtain ⟨b, off, rfl, hbs, e0, e1, e2, e3, e4, e5, e6⟩ := (HI.out.below BW.out).rd.seven hlt2
              obtain ⟨b', off', rfl, hbs', f0, f1, f2, f3, f4, f5, f6⟩ := (HT0.out.below (bel_then HI.out.bel BW.out)).seven hlt
              rw [← HKJ.out] at f1 f2 f3 f4 f5
              have HM := Lib.hid (BS.out.miss)
              have HH : Hid ((Idx.at' hv kk).k = kj → SrchR hv kj (kk + 1) (.int .i64 kk)) := Lib.hid fun h => .inr ⟨kk, by omega, rfl, h⟩
              generalize Idx.at' hv kk = y at *
              cases hd : decide (y.k = kj)
              · have HS2 := Lib.hid (HM.out (by simpa using hd))
                clear HM HH BS
                go_wp2_with fail
                go_quiet (fail)
                go_wp2_with fail
                go_roundg (m - (kk + 1))
                case measure => omega
                case rel => exact ⟨kk + 1, by omega, by omega, by go_num, HS2.out, bel_drN2 BW.out _⟩
              · have HS2 := Lib.hid (HH.out (by simpa using hd))
                clear HM HH BS
                go_wp2_with fail
                go_quiet (fail)
                go_wp2_with fail
                go_roundg (m - (kk + 1))
                case measure => omega
                case rel => exact ⟨kk + 1, by omega, by omega, by go_num, HS2.out, bel_drN2 BW.out _⟩
            · have hlt2z : ¬ (kk : Int) < (m : Int) := by omega
              have hkm : kk = m := by omega
              have HSR : Hid (SrchR hv kj m _) := Lib.hid (hkm ▸ BS.out)
              have HI4 := Lib.hid (HI.out.below BW.out)
              clear hkm BS BW HI
              generalize wr = w4 at *
              obtain ⟨b', off', rfl, hbs', f0, f1, f2, f3, f4, f5, f6⟩ := (HT0.out.below HI4.out.bel).seven hlt
              rw [← HKJ.out] at f1 f2 f3 f4 f5
              go_upto_if 65 with (fail)
              go_cut [5, 7] (fun s5 s7 wx => ∃ (A : Option Addr) (c : Nat) (T hv : List Idx.Cell) (m : Nat) (B : Option Addr) (d : Nat), m ≤ j + 1 ∧ s5 = .slice A N c ∧ s7 = .slice B m d ∧ MapI w N T hv A m B d wx)
              case first =>
                have hkw : kj.wf := by rw [HKJ.out]; exact HK.out
                generalize hx : Idx.at' l j = x at *
                have HX := Lib.hid hx
                clear hx
                obtain ⟨xu, xk, xn⟩ := x
                dsimp only at HKJ HK f0 f6
                have hkx : kj = xk := HKJ.out
                subst hkx
                have hml := HI4.out.hl
                have hN64 : N ≤ 64 := by omega
                cases xu
                · rcases HSR.out with ⟨rfl, hno⟩ | ⟨i0, hi0, rfl, he⟩
                  · have HD := Lib.hid (del_spec A N c T kj w4 HI4.out.tab hkw (by omega))
                    rw [HI4.out.st.del_new (fun i hi => hno i (by rw [← hml]; exact hi))] at HD
                    clear hno HSR hml
                    go_wp2_with fail
                    refine HD.out.mono ?_
                    rintro e w5 ⟨A5, c5, rfl, hT, hb⟩
                    have HI5 := Lib.hid (HI4.out.below hb)
                    have HT5 := Lib.hid hT
                    clear hT hb HD HI4
                    go_wp2_with fail
                    go_meet
                    exact ⟨A5, c5, T, hv, m, B, d, by omega, rfl, rfl, HT5.out, HI5.out.st, HI5.out.own, HI5.out.hl, HI5.out.wf, HI5.out.bel⟩
                  · obtain ⟨R, hR, hst⟩ := HI4.out.st.del_old (by rw [hml]; exact hi0) he
                    have HD := Lib.hid (del_spec A N c T kj w4 HI4.out.tab hkw (by omega))
                    rw [hR] at HD
                    have HST2 := Lib.hid hst
                    have hi0z : (0 : Int) ≤ (i0 : Int) := by omega
                    have hi0m : (i0 : Int) < (m : Int) := by omega
                    clear he HSR hR hst hml
                    go_wp2_with fail
                    refine HD.out.mono ?_
                    rintro e w5 ⟨A5, c5, rfl, hT, hb⟩
                    have HI5 := Lib.hid (HI4.out.below hb)
                    have HT5 := Lib.hid hT
                    clear hT hb HD HI4 f0 f1 f2 f3 f4 f5 f6
                    obtain ⟨gb, rfl, hmd⟩ := own_hd HI5.out.own (by omega)
                    have hmdz : (m : Int) ≤ (d : Int) := by omega
                    have hdz : (i0 : Int) + 1 ≤ (d : Int) := by omega
                    have HR1 : Hid (Rd w5 7 (some ⟨gb, 0, none⟩) i0 (tcells (hv.take i0))) := Lib.hid (by
                      have := HI5.out.rd.rd.sub7 HI5.out.hl 0 i0 (by omega)
                      simpa using this)
                    have HR2 : Hid (Rd w5 7 (if d = i0 + 1 then some ⟨gb, 0, none⟩ else some ⟨gb, (i0 + 1) * 7, none⟩) (m - (i0 + 1)) (tcells (hv.drop (i0 + 1)))) := Lib.hid (by
                      have h2 := HI5.out.rd.rd.sub7 HI5.out.hl (i0 + 1) (m - (i0 + 1)) (by omega)
                      rw [List.take_of_length_le (by rw [List.length_drop, HI5.out.hl]; exact Nat.le_refl _)] at h2
                      split
                      · refine ⟨h2.1, fun h0 => ?_⟩
                        omega
                      · simpa using h2)
                    have hs1 : (i0 : Int) ≤ (d : Int) := by omega
                    have hs2 : (i0 : Int) + 1 ≤ (m : Int) := by omega
                    have hs3 : (0 : Int) ≤ (i0 : Int) + 1 := by omega
                    have hs4 : IntKind.i64.wrap ((i0 : Int) + 1) = (i0 : Int) + 1 := by rw [IntKind.wrap_i64]; omega
                    have hs5 : ((i0 : Int) + 1).toNat = i0 + 1 := by omega
                    go_upto_region 31 with (fail)
                    go_region_held3 (fun w' => Below w5.heap.size w5 w') (exact (by repeat (first | with_reducible exact hbn | with_reducible exact Below.refl w5.heap.size w5 | with_reducible refine bel_al2 ?_ _ | with_reducible refine bel_dr2 ?_ | with_reducible refine bel_drN2 ?_ _)))
                      (first | (refine step_app _ (by rfl) (.tmp 115) (.tmp 118) 42 (by rfl) w5 (by repeat (first | with_reducible exact hbn | with_reducible exact Below.refl w5.heap.size w5 | with_reducible refine bel_al2 ?_ _ | with_reducible refine bel_dr2 ?_ | with_reducible refine bel_drN2 ?_ _)) 44 _ 7 56 Try.underlying42 infoS rfl (by decide) (.slice (some ⟨_, 0, none⟩) 0 0) 0 [] (by rfl) (by repeat (first | exact own_lit0 _ w5 _ _ _ (by simp) (by simp) | apply World.ownsRow.drew | apply World.ownsRow.alloc)) (some ⟨gb, 0, none⟩) i0 d (tcells (hv.take i0)) (by rfl) (by exact HR1.out.below (by repeat (first | with_reducible exact hbn | with_reducible exact Below.refl w5.heap.size w5 | with_reducible refine bel_al2 ?_ _ | with_reducible refine bel_dr2 ?_ | with_reducible refine bel_drN2 ?_ _))) (one_tcells _) (by unfold maxLen; omega) (by omega) ?_; intro A8 c8 w8 hown8 hbn hg8; rw [Nat.zero_add, List.nil_append] at hown8; rw [Nat.zero_add]) | (refine step_app _ (by rfl) (.tmp 119) (.tmp 123) 42 (by rfl) w5 (by repeat (first | with_reducible exact hbn | with_reducible exact Below.refl w5.heap.size w5 | with_reducible refine bel_al2 ?_ _ | with_reducible refine bel_dr2 ?_ | with_reducible refine bel_drN2 ?_ _)) 44 _ 7 56 Try.underlying42 infoS rfl (by decide) (.slice A8 i0 c8) i0 (tcells (hv.take i0)) (by rfl) (by repeat (first | exact hown8 | apply World.ownsRow.drew | apply World.ownsRow.alloc)) (if d = i0 + 1 then some ⟨gb, 0, none⟩ else some ⟨gb, (i0 + 1) * 7, none⟩) (m - (i0 + 1)) (d - (i0 + 1)) (tcells (hv.drop (i0 + 1))) (by rfl) (by exact HR2.out.below (by repeat (first | with_reducible exact hbn | with_reducible exact Below.refl w5.heap.size w5 | with_reducible refine bel_al2 ?_ _ | with_reducible refine bel_dr2 ?_ | with_reducible refine bel_drN2 ?_ _))) (one_tcells _) (by unfold maxLen; omega) (by omega) ?_; intro A9 c9 w9 hown9 hbn hg9))
                    have hln : (hv.take i0 ++ hv.drop (i0 + 1)).length = i0 + (m - (i0 + 1)) := by rw [List.length_append, List.length_take, List.length_drop, HI5.out.hl]; omega
                    rw [← tcells_app] at hown9
                    have HO9 := Lib.hid (own_weak hown9 HI5.out.bel.size)
                    go_wp2_with fail
                    all_goals
                      go_meet
                      exact ⟨A5, c5, R, hv.take i0 ++ hv.drop (i0 + 1), i0 + (m - (i0 + 1)), A9, c9, by omega, rfl, rfl, HT5.out.below hbn, HST2.out, HO9.out, hln, (fun q hq => HI5.out.wf q (by rw [List.mem_append] at hq; rcases hq with hq | hq; exact List.mem_of_mem_take hq; exact List.mem_of_mem_drop hq)), bel_then HI5.out.bel hbn⟩
                · have KC : Hid (∀ w' : World, Below w4.heap.size w4 w' → w'.cell? ⟨b', off' + j * 7 + 1, none⟩ = some (.int .i64 kj.pr) ∧ w'.cell? ⟨b', off' + j * 7 + 2, none⟩ = some (.int .u32 kj.sr) ∧ w'.cell? ⟨b', off' + j * 7 + 3, none⟩ = some (.int .i64 kj.sp) ∧ w'.cell? ⟨b', off' + j * 7 + 4, none⟩ = some (.int .u32 kj.ds) ∧ w'.cell? ⟨b', off' + j * 7 + 5, none⟩ = some (.int .i64 kj.dp) ∧ w'.cell? ⟨b', off' + j * 7 + 6, none⟩ = some (.int .i64 xn)) := Lib.hid (fun w' hb => by
                    have hc : ∀ i, w'.cell? ⟨b', off' + j * 7 + i, none⟩ = w4.cell? ⟨b', off' + j * 7 + i, none⟩ := fun i => hb.cell (p := ⟨b', off' + j * 7 + i, none⟩) hbs'
                    rw [hc, hc, hc, hc, hc, hc]
                    exact ⟨f1, f2, f3, f4, f5, f6⟩)
                  have HST := Lib.hid ((HT0.out.below HI4.out.bel))
                  rcases HSR.out with ⟨rfl, hno⟩ | ⟨i0, hi0, rfl, he⟩
                  · have hpn := HI4.out.st.put_new (x := ⟨true, kj, xn⟩) (fun i hi => hno i (by rw [← hml]; exact hi))
                    dsimp only at hpn
                    rcases hpn with ⟨R, hR, hst⟩ | ⟨er, hR, hr0, hr10⟩
                    · have HP : Hid (∀ w' : World, Below w4.heap.size w4 w' → Calls Try.prog 17 #[.slice A N c, .agg #[.int .i64 kj.pr, .int .u32 kj.sr, .int .i64 kj.sp, .int .u32 kj.ds, .int .i64 kj.dp], .int .i64 xn] w' fun e w'' => ∃ A' c', e = .returned (.tuple #[.slice A' N c', .int .i64 0]) ∧ TabR w'' A' N R ∧ Below w'.heap.size w' w'' ∧ ∀ a, A' = some a → w'.heap.size ≤ a.block) := Lib.hid fun w' hb => (put_spec2 A N c T kj xn w' (HI4.out.tab.below hb) hkw (by omega)).mono fun e w'' h => by rw [hR] at h; exact h
                      have HST2 := Lib.hid hst
                      have HOB : Hid (∀ g, (Value.slice B m d).ownBlock = some g → g < w4.heap.size) := Lib.hid fun g hg => (HI4.out.own.lt g hg).2
                      clear hno HSR hR hst f0 f1 f2 f3 f4 f5 f6
                      go_upto_region 19 with (fail)
                      go_region_held3 (fun w' => w'.cell? ⟨b', off' + j * 7 + 1, none⟩ = some (.int .i64 kj.pr) ∧ w'.cell? ⟨b', off' + j * 7 + 2, none⟩ = some (.int .u32 kj.sr) ∧ w'.cell? ⟨b', off' + j * 7 + 3, none⟩ = some (.int .i64 kj.sp) ∧ w'.cell? ⟨b', off' + j * 7 + 4, none⟩ = some (.int .u32 kj.ds) ∧ w'.cell? ⟨b', off' + j * 7 + 5, none⟩ = some (.int .i64 kj.dp) ∧ w'.cell? ⟨b', off' + j * 7 + 6, none⟩ = some (.int .i64 xn)) (exact KC.out _ (by repeat (first | with_reducible exact hbn | with_reducible exact Below.refl w4.heap.size w4 | with_reducible refine bel_al2 ?_ _ | with_reducible refine bel_dr2 ?_ | with_reducible refine bel_drN2 ?_ _)))
                      (((with_reducible refine (HP.out _ (by repeat (first | with_reducible exact hbn | with_reducible exact Below.refl w4.heap.size w4 | with_reducible refine bel_al2 ?_ _ | with_reducible refine bel_dr2 ?_ | with_reducible refine bel_drN2 ?_ _))).mono ?_); rintro e w5 ⟨A5, c5, rfl, hT5, hb5, hfr⟩; have hFR : Hid (∀ a, A5 = some a → w4.heap.size ≤ a.block) := Lib.hid (fun a ha => Nat.le_trans (Below.size (by repeat (first | with_reducible exact hbn | with_reducible exact Below.refl w4.heap.size w4 | with_reducible refine bel_al2 ?_ _ | with_reducible refine bel_dr2 ?_ | with_reducible refine bel_drN2 ?_ _))) (hfr a ha)); have hbn : Below w4.heap.size w4 w5 := bel_then (by repeat (first | with_reducible exact hbn | with_reducible exact Below.refl w4.heap.size w4 | with_reducible refine bel_al2 ?_ _ | with_reducible refine bel_dr2 ?_ | with_reducible refine bel_drN2 ?_ _)) hb5))
                      have HI5 := Lib.hid (HI4.out.below hbn)
                      have HT5 := Lib.hid hT5
                      have HRD5 := Lib.hid (HST.out.below hbn)
                      clear hT5 hb5 hbn HP KC HI4 HST
                      obtain ⟨b2, off2, e2', hbs2, f0, f1, f2, f3, f4, f5, f6⟩ := HRD5.out.seven hlt
                      injection e2' with e2'
                      injection e2' with e21 e22
                      subst e21 e22
                      rw [HX.out] at f0 f1 f2 f3 f4 f5 f6
                      dsimp only at f0 f1 f2 f3 f4 f5 f6
                      have hbs5 := HI5.out.bel.size
                      go_wp2_with (at_builtin; refine wpList_app _ rfl (.tmp 85) (.tmp 90) 42 rfl w (by exact HI5.out.bel.alloc hbs5 _) 44 (.agg #[.bool false, .int .i64 0, .int .u32 0, .int .i64 0, .int .u32 0, .int .i64 0, .int .i64 0]) 7 56 Try.underlying42 infoS rfl (by decide) (.slice B m d) m (tcells hv) rfl (by exact HI5.out.own.alloc _) (some ⟨_, 0, none⟩) 1 1 (Idx.Cell.cells ⟨true, kj, xn⟩) rfl (by exact rd_step _ ⟨true, kj, xn⟩ _) (one_cells _) (by unfold maxLen; omega) (by omega) ?_; intro A6 c6 w6 hown6 hb6 hg6 hat6)
                      rw [tcells_snoc] at hown6
                      have hT6 : TabR w6 A5 N R := (HT5.out.below (bel_al2 (Below.refl _ _) _)).grown hg6 (fun a g ha hg => by have h1 := hFR.out a ha; have h2 := HOB.out g hg; omega)
                      go_meet
                      exact ⟨A5, c5, R, hv ++ [⟨true, kj, xn⟩], m + 1, A6, c6, by omega, rfl, rfl, hT6, HST2.out, hown6, by simp [HI5.out.hl], (fun q hq => by rw [List.mem_append, List.mem_singleton] at hq; rcases hq with hq | hq; exact HI5.out.wf q hq; rw [hq]; exact hkw), hb6⟩
                    · have HP : Hid (∀ w' : World, Below w4.heap.size w4 w' → Calls Try.prog 17 #[.slice A N c, .agg #[.int .i64 kj.pr, .int .u32 kj.sr, .int .i64 kj.sp, .int .u32 kj.ds, .int .i64 kj.dp], .int .i64 xn] w' fun e w'' => ∃ A' c', e = .returned (.tuple #[.slice A' N c', .int .i64 er]) ∧ TabR w'' A' N T ∧ Below w'.heap.size w' w'') := Lib.hid fun w' hb => (put_spec A N c T kj xn w' (HI4.out.tab.below hb) hkw (by omega)).mono fun e w'' h => by rw [hR] at h; exact h
                      have z0 : (er == 0) = false := by simpa using hr0
                      have z10 : (er == 10) = false := by simpa using hr10
                      clear hno HSR hR hr0 hr10 f0 f1 f2 f3 f4 f5 f6
                      go_upto_region 19 with (fail)
                      go_region_held3 (fun w' => w'.cell? ⟨b', off' + j * 7 + 1, none⟩ = some (.int .i64 kj.pr) ∧ w'.cell? ⟨b', off' + j * 7 + 2, none⟩ = some (.int .u32 kj.sr) ∧ w'.cell? ⟨b', off' + j * 7 + 3, none⟩ = some (.int .i64 kj.sp) ∧ w'.cell? ⟨b', off' + j * 7 + 4, none⟩ = some (.int .u32 kj.ds) ∧ w'.cell? ⟨b', off' + j * 7 + 5, none⟩ = some (.int .i64 kj.dp) ∧ w'.cell? ⟨b', off' + j * 7 + 6, none⟩ = some (.int .i64 xn)) (exact KC.out _ (by repeat (first | with_reducible exact hbn | with_reducible exact Below.refl w4.heap.size w4 | with_reducible refine bel_al2 ?_ _ | with_reducible refine bel_dr2 ?_ | with_reducible refine bel_drN2 ?_ _)))
                      (((with_reducible refine (HP.out _ (by repeat (first | with_reducible exact hbn | with_reducible exact Below.refl w4.heap.size w4 | with_reducible refine bel_al2 ?_ _ | with_reducible refine bel_dr2 ?_ | with_reducible refine bel_drN2 ?_ _))).mono ?_); rintro e w5 ⟨A5, c5, rfl, hT5, hb5⟩; have hbn : Below w4.heap.size w4 w5 := bel_then (by repeat (first | with_reducible exact hbn | with_reducible exact Below.refl w4.heap.size w4 | with_reducible refine bel_al2 ?_ _ | with_reducible refine bel_dr2 ?_ | with_reducible refine bel_drN2 ?_ _)) hb5))
                      have HI5 := Lib.hid (HI4.out.below hbn)
                      have HT5 := Lib.hid hT5
                      clear hT5 hb5 hbn HP KC HI4
                      go_wp2_with fail
                      go_meet
                      exact ⟨A5, c5, T, hv, m, B, d, by omega, rfl, rfl, HT5.out, HI5.out.st, HI5.out.own, HI5.out.hl, HI5.out.wf, HI5.out.bel⟩
                  · have hR := HI4.out.st.put_old (x := xn) (by rw [hml]; exact hi0) he
                    have HP : Hid (∀ w' : World, Below w4.heap.size w4 w' → Calls Try.prog 17 #[.slice A N c, .agg #[.int .i64 kj.pr, .int .u32 kj.sr, .int .i64 kj.sp, .int .u32 kj.ds, .int .i64 kj.dp], .int .i64 xn] w' fun e w'' => ∃ A' c', e = .returned (.tuple #[.slice A' N c', .int .i64 10]) ∧ TabR w'' A' N T ∧ Below w'.heap.size w' w'') := Lib.hid fun w' hb => (put_spec A N c T kj xn w' (HI4.out.tab.below hb) hkw (by omega)).mono fun e w'' h => by rw [hR] at h; exact h
                    clear he HSR hR f0 f1 f2 f3 f4 f5 f6
                    have hi0z : (0 : Int) ≤ (i0 : Int) := by omega
                    go_upto_region 19 with (fail)
                    go_region_held3 (fun w' => w'.cell? ⟨b', off' + j * 7 + 1, none⟩ = some (.int .i64 kj.pr) ∧ w'.cell? ⟨b', off' + j * 7 + 2, none⟩ = some (.int .u32 kj.sr) ∧ w'.cell? ⟨b', off' + j * 7 + 3, none⟩ = some (.int .i64 kj.sp) ∧ w'.cell? ⟨b', off' + j * 7 + 4, none⟩ = some (.int .u32 kj.ds) ∧ w'.cell? ⟨b', off' + j * 7 + 5, none⟩ = some (.int .i64 kj.dp) ∧ w'.cell? ⟨b', off' + j * 7 + 6, none⟩ = some (.int .i64 xn)) (exact KC.out _ (by repeat (first | with_reducible exact hbn | with_reducible exact Below.refl w4.heap.size w4 | with_reducible refine bel_al2 ?_ _ | with_reducible refine bel_dr2 ?_ | with_reducible refine bel_drN2 ?_ _)))
                      (((with_reducible refine (HP.out _ (by repeat (first | with_reducible exact hbn | with_reducible exact Below.refl w4.heap.size w4 | with_reducible refine bel_al2 ?_ _ | with_reducible refine bel_dr2 ?_ | with_reducible refine bel_drN2 ?_ _))).mono ?_); rintro e w5 ⟨A5, c5, rfl, hT5, hb5⟩; have hbn : Below w4.heap.size w4 w5 := bel_then (by repeat (first | with_reducible exact hbn | with_reducible exact Below.refl w4.heap.size w4 | with_reducible refine bel_al2 ?_ _ | with_reducible refine bel_dr2 ?_ | with_reducible refine bel_drN2 ?_ _)) hb5))
                    have HI5 := Lib.hid (HI4.out.below hbn)
                    have HT5 := Lib.hid hT5
                    clear hT5 hb5 hbn HP KC HI4
                    go_wp2_with fail
                    go_meet
                    exact ⟨A5, c5, T, hv, m, B, d, by omega, rfl, rfl, HT5.out, HI5.out.st, HI5.out.own, HI5.out.hl, HI5.out.wf, HI5.out.bel⟩
              case rest =>
                clear HI4 HSR f0 f1 f2 f3 f4 f5 f6 hmj hmz hkk hg2 hlt2 hlt2z
                obtain ⟨A, c, T, hv, m, B, d, hm, rfl, rfl, hI⟩ := hcut
                have HI := Lib.hid hI
                have HR := Lib.hid (iright_spec A N c T wc hI.tab (by omega))
                rw [Idx.right_of hI.st.good] at HR
                clear hI
                go_wp2_with fail
                refine HR.out.mono ?_
                rintro e w5 ⟨rfl, hb⟩
                have HI5 := Lib.hid (HI.out.below hb)
                have HL := Lib.hid (len_spec A N c T w5 HI5.out.tab (by omega))
                rw [HI5.out.st.many, HI5.out.hl] at HL
                clear hb HR HI
                go_wp2_with fail
                refine HL.out.mono ?_
                rintro e w6 ⟨rfl, hb⟩
                have HI6 := Lib.hid (HI5.out.below hb)
                clear hb HL HI5
                go_wp2_with fail
                go_loopg [15] m (fun gg s15 wx => ∃ kk : Nat, kk ≤ m ∧ m - kk ≤ gg ∧ s15 = .int .i64 kk ∧ Aside (Below w6.heap.size w6 wx))
                case atStart => exact ⟨0, by omega, by omega, rfl, Below.refl _ _⟩
                case round =>
                  obtain ⟨kk, hkk, hg2, rfl, BW⟩ := hrel
                  have HI7 := Lib.hid (HI6.out.below BW.out)
                  by_cases hlt2 : kk < m
                  · have hlt2z : (kk : Int) < (m : Int) := by omega
                    have hkw := HI7.out.rd.keyf kk
                    have hget := HI7.out.st.get (i := kk) (by rw [HI7.out.hl]; exact hlt2)
                    obtain ⟨b, off, rfl, hbs, e0, e1, e2, e3, e4, e5, e6⟩ := HI7.out.rd.seven hlt2
                    have HRD := Lib.hid HI7.out.rd
                    have HG := Lib.hid (get_spec A N c T (Idx.at' hv kk).k wr HI7.out.tab hkw (by omega))
                    rw [hget] at HG
                    clear hget
                    generalize hy : Idx.at' hv kk = y at *
                    have HY := Lib.hid hy
                    clear hy
                    go_wp2_with fail
                    refine HG.out.mono ?_
                    rintro e w8 ⟨rfl, hb⟩
                    have HB8 := Lib.hid (bel_then BW.out hb)
                    obtain ⟨b', off', e', hbs', e0', e1', e2', e3', e4', e5', e6'⟩ := (HRD.out.below hb).seven hlt2
                    injection e' with e'
                    injection e' with e1'' e2''
                    subst e1'' e2''
                    rw [HY.out] at e6'
                    clear hb HG e0 e1 e2 e3 e4 e5 e6 e0' e1' e2' e3' e4' e5'
                    go_wp2_with fail
                    go_roundg (m - (kk + 1))
                    case measure => omega
                    case rel => exact ⟨kk + 1, by omega, by omega, by go_num, HB8.out⟩
                  · have hlt2z : ¬ (kk : Int) < (m : Int) := by omega
                    clear hlt2
                    go_wp2_with fail
                    go_roundg (n - (j + 1))
                    case measure => omega
                    case rel => exact ⟨j + 1, A, c, T, hv, m, B, d, by omega, by omega, by omega, by go_num, rfl, rfl, HI7.out⟩
        · have hltz : ¬ (j : Int) < (n : Int) := by omega
          go_wp2_with fail
          go_ret
          exact ⟨rfl, BI.out.bel⟩
end Go.Proofs.Ytdfbfhejigifoaa
