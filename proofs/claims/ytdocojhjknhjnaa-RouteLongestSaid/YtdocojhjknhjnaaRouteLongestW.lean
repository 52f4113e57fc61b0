/- The walk of RouteLongest. -/
import Derived.Test.YtdocojhjknhjnaaRouteAwake
namespace Go.Proofs.Ytdocojhjknhjnaa
open Go.RowKit
set_option linter.unusedVariables false
theorem RdRoutes.big {w : World} {A : Option Addr} {n : Nat} {l : List Route.R} (h : RdRoutes w A n l) : n ≤ 9223372036854775807 := h.2.1
open Route in
set_option maxRecDepth 8000 in
set_option maxHeartbeats 4000000 in
theorem route_longest (A : Option Addr) (n c : Nat) (l : List Route.R) (a : Int) (w : World) (hrd : RdRoutes w A n l) (hwf : ∀ r ∈ l, r.wf) (hnc : n ≤ c) (hc : c ≤ 9223372036854775807) (a0 : 0 ≤ a) (a1 : a ≤ 4294967295) :
    Calls Try.prog 8 #[.slice A n c, .int .u32 a] w fun e w' => e = .returned (.bool true) ∧ Below w.heap.size w w' := by
  obtain ⟨m, hmin0, hm, hmc, _⟩ := min_named n 100
  have hmin : (if (100 : Int) < (n : Int) then (100 : Int) else (n : Int)) = (m : Int) := hmin0
  clear hmin0
  have hrm := hrd.take (m := m) hm
  have hwf' : ∀ r ∈ l.take m, r.wf := fun r h => hwf r (List.mem_of_mem_take h)
  generalize l.take m = l' at hrm hwf'
  have hl := hrm.1
  have HWF := Lib.hid hwf'
  have hmcc : m ≤ c := by omega
  clear hwf hwf' hrd
  go_enter Try.func8, Try.ntmps8
  go_wp2_with fail
  refine (route_awake _).mono ?_
  rintro e w1 ⟨rfl, hb1⟩
  have r1 := hrm.below hb1
  have hright := tright_spec A m c l' w1 r1 HWF.out hmcc hc
  cases hq : rightB l'
  · rw [hq] at hright
    have hz : zoneV l' a = -1 := by unfold zoneV findOk; rw [hq]; rfl
    clear hq
    go_wp2_with fail
    refine hright.mono ?_
    rintro e w2 ⟨rfl, hb2⟩
    have hzone := zone_spec A m c l' a w2 (r1.below hb2) HWF.out hmcc hc a0 a1
    rw [hz] at hzone
    clear hz hright
    go_wp2_with (go_at_call 24; refine (hzone).mono ?_; rintro e w3 ⟨rfl, hb3⟩)
    go_ret
    exact ⟨rfl, bel_then (bel_then hb1 hb2) hb3⟩
  · rw [hq] at hright
    have HQ := Lib.hid hq
    clear hq
    go_wp2_with fail
    refine hright.mono ?_
    rintro e w2 ⟨rfl, hb2⟩
    have hfind := find_spec A m c l' a w2 (r1.below hb2) HWF.out hmcc hc a0 a1
    have hbs := best_spec l' a l'.length
    have hok : findOk l' a = decide (0 ≤ best l' a l'.length) := by unfold findOk; rw [HQ.out, Bool.true_and]
    have hfv : findV l' a = if findOk l' a = true then l'[(best l' a l'.length).toNat]! else zero := rfl
    generalize findV l' a = r at hfind hfv
    obtain ⟨x0, x1, x2, x3⟩ := r
    have hcells : (R.mk x0 x1 x2 x3).cells.toArray = #[.int .u32 x0, .int .i64 x1, .int .i64 x2, .int .i64 x3] := rfl
    rw [hcells] at hfind
    clear hcells
    rw [hl] at hbs hok hfv
    rcases hbs with ⟨g1, g2⟩ | ⟨j, g1, g2, g3, g4, _⟩
    · rw [g1] at hok
      have hok2 : findOk l' a = false := by rw [hok]; rfl
      rw [hok2] at hfind
      have HNO := Lib.hid g2
      clear hok hfv g1 g2 hok2 hright
      go_wp2_with fail
      refine hfind.mono ?_
      rintro e w3 ⟨rfl, hb3⟩
      have hbT := bel_then (bel_then hb1 hb2) hb3
      have r3 := (r1.below hb2).below hb3
      clear hfind r1 hrm
      go_wp2
      go_loopw [7, 8, 9] (fun fd i _ wr => ∃ k : Nat, k ≤ m ∧ fd = .bool false ∧ i = .int .i64 k ∧ Below w3.heap.size w3 wr) (fun _ i _ _ => m - (intOf i).toNat)
      case atStart => exact ⟨0, by omega, rfl, rfl, (Below.refl _ _).alloc (Nat.le_refl _) _⟩
      case round =>
        obtain ⟨k, hk, rfl, rfl, hbel⟩ := hrel
        by_cases hlt : k < m
        · have hltz : (k : Int) < (m : Int) := by omega
          obtain ⟨b, off, rfl, l2⟩ := (r3.below hbel).2.2 k hlt
          have hno := HNO.out k hlt
          have hrwf : (l'[k]!).wf := HWF.out _ (by rw [getElem!_pos l' k (by omega)]; exact List.getElem_mem _)
          generalize l'[k]! = r at l2 hno hrwf
          obtain ⟨e0, e1, e2, e3⟩ := l2.four
          have hlb := l2.1
          have hin : ∀ q, Calls Try.prog 26 #[.int .u32 a, .int .u32 r.net, .int .i64 r.bits] (wr.drewN q) (fun e w'' => e = .returned (.bool false) ∧ ∃ k, w'' = wr.drewN k) := fun q => by
            have := in_spec a r.net r.bits (wr.drewN q) a0 a1 hrwf.1 hrwf.2
            rw [hno] at this
            exact this.mono fun e w1 ⟨h, h2⟩ => ⟨h, q, h2.symm⟩
          have HI := Lib.hid hin
          clear l2 hno hin
          go_wp2_with fail
          go_quiet ((with_reducible exact HI.out _))
          go_wp2_with fail
          go_quiet (fail)
          go_wp2_with fail
          go_quiet (fail)
          go_wp2
          go_roundw
          case rel => exact ⟨k + 1, by omega, rfl, by go_num, by first | exact below_drewN hbel _ | exact below_drewN hbel _⟩
          case measure => simp [intOf]; omega
        · have hltz : ¬ (k : Int) < (m : Int) := by omega
          have : k = m := by omega
          subst this
          go_wp2
          go_ret
          exact ⟨rfl, bel_then hbT hbel⟩
    · rw [g1] at hok
      have hok2 : findOk l' a = true := by rw [hok]; simp
      rw [hok2] at hfind
      rw [hok2, g1, Int.toNat_natCast, if_pos rfl] at hfv
      have HJ : Hid (j < m ∧ Net.inB a l'[j]!.net l'[j]!.bits = true ∧ l'[j]! = ⟨x0, x1, x2, x3⟩ ∧ ∀ i, i < m → Net.inB a l'[i]!.net l'[i]!.bits = true → l'[i]!.bits ≤ x1) := by
        refine Lib.hid ⟨g2, g3, hfv.symm, fun i hi hin => ?_⟩
        have := g4 i hi hin
        rw [← hfv] at this
        exact this
      clear hok hfv g1 g2 g3 g4 hok2 hright
      go_wp2_with fail
      refine hfind.mono ?_
      rintro e w3 ⟨rfl, hb3⟩
      obtain ⟨W3, hW3⟩ : ∃ W3, W3 = w3.alloc (.cells #[.int .u32 x0, .int .i64 x1, .int .i64 x2, .int .i64 x3] 40) := ⟨_, rfl⟩
      have hb4 : Below w3.heap.size w3 W3 := by rw [hW3]; exact (Below.refl _ _).alloc (Nat.le_refl _) _
      have B5 : RCells W3 w3.heap.size [.int .u32 x0, .int .i64 x1, .int .i64 x2, .int .i64 x3] := by rw [hW3]; exact RCells.new w3 _ 40
      have hbT := bel_then (bel_then (bel_then hb1 hb2) hb3) hb4
      have r3 := ((r1.below hb2).below hb3).below hb4
      clear hfind r1 hrm
      go_wp2
      rw [← hW3]
      clear hW3 hb4 hb3
      go_loopw [7, 8, 9] (fun fd i _ wr => ∃ k : Nat, k ≤ m ∧ (∃ fb : Bool, fd = .bool fb ∧ (j < k → fb = true)) ∧ i = .int .i64 k ∧ Below W3.heap.size W3 wr) (fun _ i _ _ => m - (intOf i).toNat)
      case atStart => exact ⟨0, by omega, ⟨false, rfl, fun h => absurd h (Nat.not_lt_zero _)⟩, rfl, Below.refl _ _⟩
      case round =>
        obtain ⟨k, hk, ⟨fb, rfl, hfb0⟩, rfl, hbel⟩ := hrel
        have hfb := Lib.hid hfb0
        clear hfb0
        by_cases hlt : k < m
        · have hltz : (k : Int) < (m : Int) := by omega
          obtain ⟨b, off, rfl, l2⟩ := (r3.below hbel).2.2 k hlt
          have hrwf : (l'[k]!).wf := HWF.out _ (by rw [getElem!_pos l' k (by omega)]; exact List.getElem_mem _)
          have B6 := B5.below hbel
          have c0 : wr.cell? ⟨w3.heap.size, 0, none⟩ = some (.int .u32 x0) := B6.2 0 _ rfl
          have c1 : wr.cell? ⟨w3.heap.size, 1, none⟩ = some (.int .i64 x1) := B6.2 1 _ rfl
          have c2 : wr.cell? ⟨w3.heap.size, 2, none⟩ = some (.int .i64 x2) := B6.2 2 _ rfl
          have c3 : wr.cell? ⟨w3.heap.size, 3, none⟩ = some (.int .i64 x3) := B6.2 3 _ rfl
          have hle := HJ.out.2.2.2 k hlt
          by_cases hkj : k = j
          · subst hkj
            have hin0 := HJ.out.2.1
            rw [HJ.out.2.2.1] at l2 hrwf hin0
            obtain ⟨e0, e1, e2, e3⟩ := l2.four
            have hlb := l2.1
            have hin : ∀ q, Calls Try.prog 26 #[.int .u32 a, .int .u32 x0, .int .i64 x1] (wr.drewN q) (fun e w'' => e = .returned (.bool true) ∧ ∃ k, w'' = wr.drewN k) := fun q => by
              have := in_spec a x0 x1 (wr.drewN q) a0 a1 hrwf.1 hrwf.2
              rw [hin0] at this
              exact this.mono fun e w1 ⟨h, h2⟩ => ⟨h, q, h2.symm⟩
            have HI := Lib.hid hin
            have s0 : (x0 == x0) = true := by simp
            have s1 : (x1 == x1) = true := by simp
            have s2 : (x2 == x2) = true := by simp
            have s3 : (x3 == x3) = true := by simp
            have hd : decide (x1 < x1) = false := by simp
            clear l2 hin hin0 hle hrwf B6
            cases fb
            · skip
              go_wp2_with fail
              go_quiet ((with_reducible exact HI.out _))
              go_wp2_with fail
              go_quiet (fail)
              go_wp2_with fail
              go_quiet (fail)
              go_wp2
              go_roundw
              case rel => exact ⟨k + 1, by omega, ⟨_, rfl, by first | exact (fun _ => rfl) | exact (fun h => hfb.out (by omega))⟩, by go_num, below_drewN hbel _⟩
              case measure => simp [intOf]; omega
            · skip
              go_wp2_with fail
              go_quiet ((with_reducible exact HI.out _))
              go_wp2_with fail
              go_quiet (fail)
              go_wp2_with fail
              go_quiet (fail)
              go_wp2
              go_roundw
              case rel => exact ⟨k + 1, by omega, ⟨_, rfl, by first | exact (fun _ => rfl) | exact (fun h => hfb.out (by omega))⟩, by go_num, below_drewN hbel _⟩
              case measure => simp [intOf]; omega
          · have hdiff : (l'[k]!.net == x0) = false ∨ ((l'[k]!.net == x0) = true ∧ (l'[k]!.bits == x1) = false) := by
              cases h1 : (l'[k]!.net == x0)
              · exact .inl rfl
              · cases h2 : (l'[k]!.bits == x1)
                · exact .inr ⟨rfl, rfl⟩
                · exfalso
                  have key : ∀ p q, p < m → q < m → l'[p]!.net = l'[q]!.net → l'[p]!.bits = l'[q]!.bits → ¬ q < p := by
                    intro p q hp hq h3 h4 hlt
                    have := (right_step HQ.out (i := p) (by omega)).2 q hlt
                    unfold sameB at this
                    rw [h3, h4] at this
                    simp at this
                  have f1 : l'[k]!.net = l'[j]!.net := by rw [HJ.out.2.2.1]; simpa using h1
                  have f2 : l'[k]!.bits = l'[j]!.bits := by rw [HJ.out.2.2.1]; simpa using h2
                  have := key k j hlt HJ.out.1 f1 f2
                  have := key j k HJ.out.1 hlt f1.symm f2.symm
                  omega
            generalize l'[k]! = r at l2 hrwf hle hdiff
            obtain ⟨e0, e1, e2, e3⟩ := l2.four
            have hlb := l2.1
            have hin : ∀ q, Calls Try.prog 26 #[.int .u32 a, .int .u32 r.net, .int .i64 r.bits] (wr.drewN q) (fun e w'' => e = .returned (.bool (Net.inB a r.net r.bits)) ∧ ∃ k, w'' = wr.drewN k) := fun q =>
              (in_spec a r.net r.bits (wr.drewN q) a0 a1 hrwf.1 hrwf.2).mono fun e w1 ⟨h, h2⟩ => ⟨h, q, h2.symm⟩
            cases hib : Net.inB a r.net r.bits
            · rw [hib] at hin
              have HI := Lib.hid hin
              clear l2 hin hle hrwf B6 hib
              rcases hdiff with d1 | ⟨d1, d2⟩ <;> cases fb
              all_goals
                go_wp2_with fail
                go_quiet ((with_reducible exact HI.out _))
                go_wp2_with fail
                go_quiet (fail)
                go_wp2_with fail
                go_quiet (fail)
                go_wp2
                go_roundw
                case rel => exact ⟨k + 1, by omega, ⟨_, rfl, by first | exact (fun _ => rfl) | exact (fun h => hfb.out (by omega))⟩, by go_num, below_drewN hbel _⟩
                case measure => simp [intOf]; omega
            · rw [hib] at hin
              have hle2 := hle hib
              have hd : decide (x1 < r.bits) = false := by simp; omega
              have HI := Lib.hid hin
              clear l2 hin hle hrwf B6 hib hle2
              rcases hdiff with d1 | ⟨d1, d2⟩ <;> cases fb
              all_goals
                go_wp2_with fail
                go_quiet ((with_reducible exact HI.out _))
                go_wp2_with fail
                go_quiet (fail)
                go_wp2_with fail
                go_quiet (fail)
                go_wp2
                go_roundw
                case rel => exact ⟨k + 1, by omega, ⟨_, rfl, by first | exact (fun _ => rfl) | exact (fun h => hfb.out (by omega))⟩, by go_num, below_drewN hbel _⟩
                case measure => simp [intOf]; omega
        · have hltz : ¬ (k : Int) < (m : Int) := by omega
          have : k = m := by omega
          subst this
          have hfb2 := hfb.out HJ.out.1
          subst hfb2
          go_wp2
          go_ret
          exact ⟨rfl, bel_then hbT hbel⟩
theorem RouteLongest_walk (A : Option Addr) (n c : Nat) (l : List Route.R) (a : Int) (w : World) (hrd : RdRoutes w A n l) (hwf : ∀ r ∈ l, r.wf) (hnc : n ≤ c) (hc : c ≤ 9223372036854775807) (wa : (Lit.int .u32 a).wf = true) :
    Calls Try.prog 8 #[.slice A n c, .int .u32 a] w fun e w' => e = .returned (.bool true) ∧ Below w.heap.size w w' :=
  route_longest A n c l a w hrd hwf hnc hc (bounds_u32 wa).1 (bounds_u32 wa).2
end Go.Proofs.Ytdocojhjknhjnaa
