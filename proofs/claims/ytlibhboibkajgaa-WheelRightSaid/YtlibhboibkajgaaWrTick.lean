/- casematelaw11's reference: Tick. -/
import Derived.Test.YtlibhboibkajgaaWrWo
import Derived.Deep.QuietTactic
import Derived.BigQuiet
namespace Go.Proofs.Ytlibhboibkajgaa
open Go.RowKit
set_option linter.unusedVariables false
set_option linter.unusedSimpArgs false
/-- a row that lies in no block of two -/
def Off (g : Nat) (A : Option Addr) (n : Nat) : Prop := 0 < n → ∀ b off, A = some ⟨b, off, none⟩ → b ≠ g ∧ b ≠ g + 1
theorem Rd.only {w w' : World} {s n g : Nat} {A : Option Addr} {xs : List Value} (h : Rd w s A n xs) (ho : OnlyB g w w') (hA : 0 < n → ∀ b off, A = some ⟨b, off, none⟩ → b ≠ g) : Rd w' s A n xs := by
  refine ⟨h.1, fun hn => ?_⟩
  obtain ⟨b, off, e, hb, hc⟩ := h.2 hn
  refine ⟨b, off, e, by rw [ho.size]; exact hb, fun j u hu => (ho.cell (fun he => hA hn b off e he)).trans (hc j u hu)⟩
theorem Off.old {w : World} {s n g : Nat} {A : Option Addr} {xs : List Value} (h : Rd w s A n xs) (hg : w.heap.size ≤ g) : Off g A n := fun hn b off e => by
  obtain ⟨b', off', e', hb, _⟩ := h.2 hn
  rw [e] at e'
  injection e' with e'
  injection e' with e1 _
  omega
theorem Off.new {w : World} {b0 sz n g c : Nat} {e : TypeId} {A : Option Addr} {xs : List Value} (h : w.ownsRow b0 e sz (.slice A n c) n xs) (hg : g + 1 < b0) : Off g A n := fun hn b off e1 => by
  rcases h.2 with ⟨hv, h0⟩ | ⟨k, cap, cur, hv, hb, _⟩
  · omega
  · injection hv with hA
    rw [e1] at hA
    injection hA with hA
    injection hA with hA _
    omega
/-- the reference's row: the argument's own, or one that a call has made -/
def RowA (w V wx : World) (A : Option Addr) (n c : Nat) (r : List Wh.Al) : Prop := w.ownsRow 0 71 2 (.slice A n c) n (acells r) ∨ wx.ownsRow V.heap.size 71 2 (.slice A n c) n (acells r)
section
variable {w V wx wy : World} {A : Option Addr} {n c : Nat} {r : List Wh.Al}
theorem RowA.rd (h : RowA w V wx A n c r) (hb : Below w.heap.size w wx) : Rd wx 2 A n (acells r) := by
  rcases h with h | h
  · exact (Rd.of_own h).below hb
  · exact Rd.of_own h
theorem RowA.below (h : RowA w V wx A n c r) (hb : Below wx.heap.size wx wy) : RowA w V wy A n c r := by
  rcases h with h | h
  · exact Or.inl h
  · exact Or.inr (own_below h hb)
theorem RowA.off (h : RowA w V wx A n c r) (hz : V.heap.size = w.heap.size + 2) : Off w.heap.size A n := by
  rcases h with h | h
  · exact Off.old (Rd.of_own h) (Nat.le_refl _)
  · exact Off.new h (by omega)
theorem RowA.fin {g : Nat} (h : RowA w V wx A n c r) (hb : Below w.heap.size w wy) (ho : OnlyB g wx wy) (hg : g < V.heap.size) : wy.ownsRow 0 71 2 (.slice A n c) n (acells r) := by
  rcases h with h | h
  · exact own_below h hb
  · exact own_weak (own_only h ho hg) (Nat.zero_le _)
theorem RowA.grown {b m : Nat} {v : Value} {xs : List Value} (h : RowA w V wx A n c r) (ho : wx.ownsRow b 3 1 v m xs) (hg : wx.grownBy wy v.ownBlock) : RowA w V wy A n c r := by
  rcases h with h | h
  · exact Or.inl h
  · exact Or.inr (own_grown h ho (by decide) hg)
theorem BlkV.grown_int {g b m : Nat} {T : TypeId} {v : Value} {xs l : List Value} (h : BlkV wx g T l) (ho : wx.ownsRow b 3 1 v m xs) (hT : 3 ≠ T) (hg : wx.grownBy wy v.ownBlock) : BlkV wy g T l :=
  (hg.block g h.lt (fun e => own_ne ho h hT e.symm)).trans h
end
/-- what Tick answers -/
def RRet3 (w : World) (l : List Wh.Al) (t : Int) (e : Ending) (w' : World) : Prop :=
  ∃ v o r' B d, e = .returned (.tuple #[v, .slice B o.length d, .int .i64 0]) ∧ RV w' v r' t ∧ w'.ownsRow 0 3 1 (.slice B o.length d) o.length (ks o) ∧ Below w.heap.size w w' ∧ Wh.RTick l t o r' ∧ (∀ j, j < r'.length → t < (Wh.al r' j).t)
set_option maxRecDepth 8000 in
set_option maxHeartbeats 8000000 in
theorem rtick_spec (A : Option Addr) (n c : Nat) (now t : Int) (l : List Wh.Al) (w : World) (hO : w.ownsRow 0 71 2 (.slice A n c) n (acells l)) (hd : (l.map (·.k)).Nodup) (hn : n ≤ 256) (ht0 : now ≤ t) (ht1 : t ≤ 1099511627776) :
    Calls Try.prog 17 #[.agg #[.slice A n c, .int .i64 now], .int .i64 t] w (RRet3 w l t) := by
  have hR := Rd.of_own hO
  obtain ⟨hc, hcc⟩ := own_c hO
  have HO0 := Lib.hid hO
  clear hO
  obtain ⟨V, hV⟩ : ∃ V, V = (w.alloc (.cells #[.slice A n c, .int .i64 now] 44)).alloc (.cells #[.slice none 0 0, .int .i64 0] 44) := ⟨_, rfl⟩
  have aV : Below w.heap.size w V := by rw [hV]; exact bel_a (bel_a (Below.refl _ _) _) _
  have N1 : BlkV V w.heap.size 44 [.slice A n c, .int .i64 now] := by rw [hV]; exact (BlkV.new _ _ _).alloc _
  have M1 : BlkV V (w.heap.size + 1) 44 [.slice none 0 0, .int .i64 0] := by rw [hV]; exact BlkV.new_at _ _ _ (by simp)
  have hl := hR.alen
  have hz : V.heap.size = w.heap.size + 2 := by rw [hV]; simp
  have c0 : V.cell? ⟨w.heap.size, 0, none⟩ = some (.slice A n c) := N1.cell rfl
  have c1 : V.cell? ⟨w.heap.size, 1, none⟩ = some (.int .i64 now) := N1.cell rfl
  have HOff := Lib.hid (Off.old hR (Nat.le_refl _))
  have HV := Lib.hid hV
  have HB := Lib.hid aV
  have HL := Lib.hid hl
  have HZ := Lib.hid hz
  have HR := Lib.hid (hR.below aV)
  have HD := Lib.hid hd
  clear hV aV hl hR hd hz
  go_enter Try.func17, Try.ntmps17
  go_upto_region 1 with (fail)
  rw [← HV.out]
  go_upto_region 4 with (first | (refine wpList_stF 3 _ _ 1 (.int .i64 t) rfl (by with_reducible rfl) rfl (by rfl) (by rfl) N1 (by simp) (by kernel_rfl) rfl ?_; intro w2 N2 O2) | fail)
  have M2 := M1.only O2 (by omega)
  have HN2 := Lib.hid N2
  have HM2 := Lib.hid M2
  have HR2 := Lib.hid (HR.out.only O2 (fun hn b off e => (HOff.out hn b off e).1))
  have HB2 := Lib.hid (O2.bel (Nat.le_refl _) HB.out)
  have HZ2 : Hid (V.heap.size ≤ w2.heap.size) := Lib.hid (by rw [O2.size]; exact Nat.le_refl _)
  clear N1 M1 N2 M2 O2 c0 c1 HR HB
  go_wp2_with fail
  go_loopg [7] (n + 1) (fun gg s7 wx => ∃ (r o : List Wh.Al) (A' : Option Addr) (n' c' : Nat) (B : Option Addr) (d : Nat), n' < gg ∧ n' ≤ 256 ∧ n' ≤ c' ∧ c' ≤ 9223372036854775807 ∧ n' + o.length = n ∧ s7 = .slice B o.length d ∧ Aside (BlkV wx w.heap.size 44 [.slice A' n' c', .int .i64 t]) ∧ Aside (BlkV wx (w.heap.size + 1) 44 [.slice none 0 0, .int .i64 0]) ∧ Aside (RowA w V wx A' n' c' r) ∧ Aside (wx.ownsRow V.heap.size 3 1 (.slice B o.length d) o.length (ks o)) ∧ Aside (Wh.RTick l t o r) ∧ Aside (Below w.heap.size w wx) ∧ Aside (V.heap.size ≤ wx.heap.size))
  case atStart => exact ⟨l, [], A, n, c, none, 0, by omega, by omega, hc, hcc, by simp, rfl, HN2.out, HM2.out, Or.inl HO0.out, ⟨rfl, Or.inl ⟨rfl, rfl⟩⟩, Wh.RTick.start HD.out t, HB2.out, HZ2.out⟩
  case round =>
    obtain ⟨r, o, A', n', c', B, d, hg, hn', hnc, hcc', hno, rfl, HN3, HM3, HA3, HO3, HT3, HB3, HZ3⟩ := hrel
    obtain ⟨G2, rfl⟩ : ∃ G2, gk = G2 + 1 := ⟨gk - 1, by omega⟩
    have HR3 := Lib.hid (HA3.out.rd HB3.out)
    have HL3 := Lib.hid HR3.out.alen
    clear HN2 HM2 HR2 HB2 HZ2 HOff
    go_wp2_with fail
    go_loopg [8, 9] (n' + 1) (fun gg s8 s9 wy => ∃ (i : Nat) (bb : Int), i ≤ n' ∧ n' - i < gg ∧ s8 = .int .i64 bb ∧ s9 = .int .i64 i ∧ Aside (Wh.Best r t i bb) ∧ Aside (Below wr.heap.size wr wy))
    case atStart => exact ⟨0, -1, by omega, by omega, rfl, rfl, Wh.Best.start r t, Below.refl _ _⟩
    case round =>
      obtain ⟨i, bb, hi, hg2, rfl, rfl, HBst, HBl⟩ := hrel
      have N := HN3.out.below HBl.out
      have c0 : wr.cell? ⟨w.heap.size, 0, none⟩ = some (.slice A' n' c') := N.cell rfl
      by_cases hin : i < n'
      · have hiz : (i : Int) < (n' : Int) := by omega
        obtain ⟨b, off, rfl, hbs, hxk, hxt⟩ := (HR3.out.below HBl.out).al hin
        obtain ⟨x, hx⟩ : ∃ x, x = Wh.al r i := ⟨_, rfl⟩
        rw [← hx] at hxk hxt
        have HX := Lib.hid hx
        have HNw := Lib.hid N
        clear hx N
        go_upto_region 10 with (fail)
        obtain ⟨Y, hY⟩ : ∃ Y, Y = wr.alloc (.cells #[.int .i64 x.k, .int .i64 x.t] 71) := ⟨_, rfl⟩
        rw [← hY]
        have hbY : Below wr.heap.size wr Y := by rw [hY]; exact bel_a (Below.refl _ _) _
        have hNY : BlkV Y wr.heap.size 71 [.int .i64 x.k, .int .i64 x.t] := by rw [hY]; exact BlkV.new _ _ _
        have x0 : Y.cell? ⟨wr.heap.size, 0, none⟩ = some (.int .i64 x.k) := hNY.cell rfl
        have x1 : Y.cell? ⟨wr.heap.size, 1, none⟩ = some (.int .i64 x.t) := hNY.cell rfl
        have c0Y : Y.cell? ⟨w.heap.size, 0, none⟩ = some (.slice (some ⟨b, off, none⟩) n' c') := (HNw.out.below hbY).cell rfl
        have HY := Lib.hid hbY
        have HRY := Lib.hid ((HR3.out.below HBl.out).below hbY)
        clear hY hbY hNY hxk hxt c0
        by_cases hxt : x.t ≤ t
        · have hxtB : decide (x.t ≤ t) = true := decide_eq_true hxt
          rcases HBst.out with ⟨hb0, _⟩ | ⟨p, hb0, hp, hpt, _⟩
          · subst hb0
            have HE1 := Lib.hid trivial
            have HE2 := HE1
            have HNB : Hid (Wh.Best r t (i + 1) (i)) := Lib.hid (HBst.out.take (by rw [← HX.out]; exact hxt) (Or.inl rfl))
            clear HE1 HE2 HX
            go_quiet (fail)
            go_wp2_with fail
            go_roundg (gk - 1)
            case measure => omega
            case rel => exact ⟨i + 1, _, by omega, by omega, rfl, by go_num, HNB.out, below_drewN (bel_then HBl.out HY.out) _⟩
          · subst hb0
            obtain ⟨b', off', hAe, hbs', hyk, hyt⟩ := HRY.out.al (i := p) (by omega)
            injection hAe with hAe
            injection hAe with q1 q2 _
            subst q1 q2
            obtain ⟨y, hy⟩ : ∃ y, y = Wh.al r p := ⟨_, rfl⟩
            rw [← hy] at hyk hyt hpt
            have HE1 := Lib.hid hy
            have hpz : (p : Int) < (n' : Int) := by omega
            have hp0 : decide ((p : Int) < 0) = false := decide_eq_false (by omega)
            clear hy
            by_cases h1 : x.t < y.t
            · have HE2 := Lib.hid trivial
              have h1B : decide (x.t < y.t) = true := decide_eq_true h1
              have HNB : Hid (Wh.Best r t (i + 1) (i)) := Lib.hid (HBst.out.take (by rw [← HX.out]; exact hxt) (Or.inr ⟨p, rfl, by rw [← HX.out, ← HE1.out]; exact Or.inl h1⟩))
              clear HE1 HE2 HX
              go_quiet (fail)
              go_wp2_with fail
              go_roundg (gk - 1)
              case measure => omega
              case rel => exact ⟨i + 1, _, by omega, by omega, rfl, by go_num, HNB.out, below_drewN (bel_then HBl.out HY.out) _⟩
            · by_cases h2 : x.t = y.t
              · have h2B : (x.t == y.t) = true := by simp [h2]
                have h1B : decide (x.t < y.t) = false := decide_eq_false h1
                have HE2 := Lib.hid h2
                clear h2
                by_cases h3 : x.k < y.k
                · have h3B : decide (x.k < y.k) = true := decide_eq_true h3
                  have HNB : Hid (Wh.Best r t (i + 1) (i)) := Lib.hid (HBst.out.take (by rw [← HX.out]; exact hxt) (Or.inr ⟨p, rfl, by rw [← HX.out, ← HE1.out]; exact Or.inr ⟨HE2.out, h3⟩⟩))
                  clear HE1 HE2 HX
                  go_quiet (fail)
                  go_wp2_with fail
                  go_roundg (gk - 1)
                  case measure => omega
                  case rel => exact ⟨i + 1, _, by omega, by omega, rfl, by go_num, HNB.out, below_drewN (bel_then HBl.out HY.out) _⟩
                · have h3B : decide (x.k < y.k) = false := decide_eq_false h3
                  have HNB : Hid (Wh.Best r t (i + 1) (p)) := Lib.hid (HBst.out.skip (Or.inr ⟨p, rfl, by rw [← HX.out, ← HE1.out]; have := HE2.out; unfold Wh.lt; omega⟩))
                  clear HE1 HE2 HX
                  go_quiet (fail)
                  go_wp2_with fail
                  go_roundg (gk - 1)
                  case measure => omega
                  case rel => exact ⟨i + 1, _, by omega, by omega, rfl, by go_num, HNB.out, below_drewN (bel_then HBl.out HY.out) _⟩
              · have h2B : (x.t == y.t) = false := by simp [h2]
                have h1B : decide (x.t < y.t) = false := decide_eq_false h1
                have HE2 := Lib.hid h2
                clear h2
                have HNB : Hid (Wh.Best r t (i + 1) (p)) := Lib.hid (HBst.out.skip (Or.inr ⟨p, rfl, by rw [← HX.out, ← HE1.out]; have := HE2.out; unfold Wh.lt; omega⟩))
                clear HE1 HE2 HX
                go_quiet (fail)
                go_wp2_with fail
                go_roundg (gk - 1)
                case measure => omega
                case rel => exact ⟨i + 1, _, by omega, by omega, rfl, by go_num, HNB.out, below_drewN (bel_then HBl.out HY.out) _⟩
        · have hxtB : decide (x.t ≤ t) = false := decide_eq_false hxt
          have HE1 := Lib.hid trivial
          have HE2 := HE1
          have HNB : Hid (Wh.Best r t (i + 1) (bb)) := Lib.hid (HBst.out.skip (Or.inl (by rw [← HX.out]; omega)))
          clear HE1 HE2 HX
          go_quiet (fail)
          go_wp2_with fail
          go_roundg (gk - 1)
          case measure => omega
          case rel => exact ⟨i + 1, _, by omega, by omega, rfl, by go_num, HNB.out, below_drewN (bel_then HBl.out HY.out) _⟩
      · obtain rfl : i = n' := by omega
        clear hin
        have HN4 := Lib.hid N
        have M := HM3.out.below HBl.out
        have HM4 := Lib.hid M
        have HA4 := Lib.hid (HA3.out.below HBl.out)
        have HO4 := Lib.hid (own_below HO3.out HBl.out)
        have HB4 := Lib.hid (bel_then HB3.out HBl.out)
        have HZ4 := Lib.hid (Nat.le_trans HZ3.out HBl.out.size)
        have c1 : wr.cell? ⟨w.heap.size, 1, none⟩ = some (.int .i64 t) := N.cell rfl
        rcases HBst.out with ⟨hb0, hbn⟩ | ⟨p, hb0, hp, hpt, hbp⟩
        · subst hb0
          have HBN := Lib.hid hbn
          clear hbn
          go_wp2_with (first | (refine wpList_stB 44 _ _ (by with_reducible rfl) rfl (by rfl) [.slice A' i c', .int .i64 t] (by rfl) (by exact M) (by rfl) (by kernel_rfl) (by rfl) ?_; intro w6 N6 O6) | fail)
          have r0 : w6.cell? ⟨w.heap.size + 1, 0, none⟩ = some (.slice A' i c') := N6.cell rfl
          have r1 : w6.cell? ⟨w.heap.size + 1, 1, none⟩ = some (.int .i64 t) := N6.cell rfl
          have hB6 := O6.bel (by omega) HB4.out
          have hO6 := own_only HO4.out O6 (by have := HZ.out; omega)
          have hR6 := HA4.out.fin hB6 O6 (by have := HZ.out; omega)
          exact bodyPost_ret (v := .tuple #[.agg #[.slice A' i c', .int .i64 t], .slice B o.length d, .int .i64 0]) (by simp [results, Try.results17, go_sem, r0, r1]) rfl ⟨_, o, r, B, d, rfl, ⟨A', c', by rw [HL3.out], by rw [HL3.out]; exact hR6⟩, own_weak hO6 (Nat.zero_le _), hB6, HT3.out, by rw [HL3.out]; exact HBN.out⟩
        · subst hb0
          obtain ⟨b, off, rfl, hbs, hyk, hyt⟩ := (HA4.out.rd HB4.out).al hp
          have HBP := Lib.hid (And.intro hpt hbp)
          have hpz : (p : Int) < (i : Int) := by omega
          obtain ⟨y, hy⟩ : ∃ y, y = Wh.al r p := ⟨_, rfl⟩
          rw [← hy] at hyk hyt
          have HY := Lib.hid hy
          have hba : Below wr.heap.size wr (wr.alloc (.cells #[.int .i64 y.k] 3)) := bel_a (Below.refl _ _) _
          have HOa := Lib.hid (own_below HO4.out hba)
          have HAa := Lib.hid (HA4.out.below hba)
          have HBa := Lib.hid (bel_then HB4.out hba)
          have HNa := Lib.hid (HN4.out.below hba)
          have HMa := Lib.hid (HM4.out.below hba)
          have hsz := Lib.hid (Nat.le_trans HZ4.out hba.size)
          have hol : o.length ≤ 256 := by omega
          clear hba hbp hpt hy
          go_upto_region 15 with (first | (at_builtin; refine wpList_appB rfl (.tmp 80) (.tmp 87) 29 rfl V.heap.size (by exact hsz.out) 3 (.int .i64 0) 1 8 (by kernel_rfl) infoI rfl (by decide) (.slice B o.length d) o.length (ks o) rfl (by exact HOa.out) (some ⟨wr.heap.size, 0, none⟩) 1 1 [.int .i64 y.k] rfl (by exact rd_one wr _ _) (by intro u hu; rw [List.mem_singleton] at hu; rw [hu]; rfl) (by unfold maxLen; omega) (by omega) ?_; intro B2 d2 w4 hown4 hg4 hat4) | fail)
          have HA5 := Lib.hid (HAa.out.grown HOa.out hg4)
          have N5 := HNa.out.grown_int HOa.out (by decide) hg4
          have M5 := HMa.out.grown_int HOa.out (by decide) hg4
          have HB5 := Lib.hid (HBa.out.grown hg4 HBa.out.size (fun g hg => Nat.le_trans (by have := HZ.out; omega) (HOa.out.lt g hg).1))
          have HZ5 := Lib.hid (Nat.le_trans hsz.out hg4.size)
          rw [ks_snoc] at hown4
          have HO5 := Lib.hid hown4
          have c0 : w4.cell? ⟨w.heap.size, 0, none⟩ = some (.slice (some ⟨b, off, none⟩) i c') := N5.cell rfl
          have c1 : w4.cell? ⟨w.heap.size, 1, none⟩ = some (.int .i64 t) := N5.cell rfl
          have HW := Lib.hid (rwo_spec (some ⟨b, off, none⟩) i c' t p r w4 (HA5.out.rd HB5.out) hp hnc hcc' (by omega))
          have hz5 : w.heap.size < w4.heap.size := N5.lt
          clear hown4 hat4 hg4 HAa HNa HMa HBa hsz HOa HN4 HM4 HA4 HO4 HB4 HZ4 N M hyk hyt
          go_wp2_with fail
          refine HW.out.mono ?_
          rintro e w5 ⟨A6, c6, rfl, hO6, hb6⟩
          have N6 := N5.below hb6
          have M6 := M5.below hb6
          have hcl : (Wh.cut r p).length = i - 1 := by rw [Wh.cut_len (by rw [HL3.out]; exact hp), HL3.out]
          have HO7 := Lib.hid (own_below HO5.out hb6)
          have HB7 := Lib.hid (bel_then HB5.out hb6)
          have HZ7 := Lib.hid (Nat.le_trans HZ5.out hb6.size)
          have HC6 := Lib.hid (own_c hO6)
          have HR6 := Lib.hid hO6
          have HCL := Lib.hid hcl
          clear hO6 hb6 HW c0 c1 N5 M5 hcl
          go_wp2_with (first | (refine wpList_stB 44 _ _ (by with_reducible rfl) rfl (by rfl) [.slice A6 (Wh.cut r p).length c6, .int .i64 t] (by rfl) (by exact N6) (by rfl) (by kernel_rfl) (by rfl) ?_; intro w7 N7 O7) | fail)
          have HN8 := Lib.hid N7
          have HM8 := Lib.hid (M6.only O7 (by omega))
          have HA8 : Hid (RowA w V w7 A6 (Wh.cut r p).length c6 (Wh.cut r p)) := Lib.hid (Or.inr (own_weak (own_only HR6.out O7 hz5) HZ5.out))
          have HO8 := Lib.hid (own_only HO7.out O7 (by have := HZ.out; omega))
          have HB8 := Lib.hid (O7.bel (Nat.le_refl _) HB7.out)
          have HZ8 : Hid (V.heap.size ≤ w7.heap.size) := Lib.hid (by rw [O7.size]; exact HZ7.out)
          have HT8 : Hid (Wh.RTick l t (o ++ [y]) (Wh.cut r p)) := Lib.hid (by
            rw [HY.out]
            exact HT3.out.step (by rw [HL3.out]; exact hp) HBP.out.1 (by rw [HL3.out]; exact HBP.out.2))
          clear N7 N6 M6 O7
          go_roundg G2
          case measure => have := HCL.out; omega
          case rel => exact ⟨Wh.cut r p, o ++ [y], A6, (Wh.cut r p).length, c6, B2, d2, by rw [HCL.out]; omega, by rw [HCL.out]; omega, HC6.out.1, HC6.out.2, by rw [HCL.out, List.length_append, List.length_singleton]; omega, by rw [List.length_append]; rfl, HN8.out, HM8.out, HA8.out, by rw [List.length_append, List.length_singleton]; exact HO8.out, HT8.out, HB8.out, HZ8.out⟩
set_option maxHeartbeats 4000000 in
theorem rtick_bad (A : Option Addr) (n c : Nat) (now t : Int) (w : World) (ht : t < now ∨ 1099511627776 < t) :
    Calls Try.prog 17 #[.agg #[.slice A n c, .int .i64 now], .int .i64 t] w fun e w' => e = .returned (.tuple #[.agg #[.slice A n c, .int .i64 now], .slice none 0 0, .int .i64 1]) ∧ Below w.heap.size w w' := by
  have h5 : t < now ∨ (¬ t < now ∧ 1099511627776 < t) := by omega
  clear ht
  rcases h5 with p1 | ⟨p1, p2⟩
  all_goals
    go_enter Try.func17, Try.ntmps17
    go_wp2_with fail
    exact bodyPost_ret (v := .tuple #[.agg #[.slice A n c, .int .i64 now], .slice none 0 0, .int .i64 1]) (by simp [results, Try.results17, go_sem]) rfl ⟨rfl, bel_a (bel_a (Below.refl _ _) _) _⟩
end Go.Proofs.Ytlibhboibkajgaa
