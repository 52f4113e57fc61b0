/- The walk of RulesRight. -/
import Derived.Test.YtdocojhjknhjnaaRulesRef3
import Derived.Test.YtdocojhjknhjnaaRulesAwake
namespace Go.Proofs.Ytdocojhjknhjnaa
open Go.RowKit
set_option linter.unusedVariables false
theorem Rules.zones_true {r : Rules.Rule} {fr to : Int} (h : Rules.zonesB r fr to = true) : ((r.fr == -1) = true ∨ ((r.fr == -1) = false ∧ (r.fr == fr) = true)) ∧ ((r.to == -1) = true ∨ ((r.to == -1) = false ∧ (r.to == to) = true)) := by
  unfold Rules.zonesB at h
  revert h
  generalize (r.fr == -1) = a
  generalize (r.fr == fr) = b
  generalize (r.to == -1) = c
  generalize (r.to == to) = d
  revert a b c d
  decide
theorem Rules.zones_false {r : Rules.Rule} {fr to : Int} (h : Rules.zonesB r fr to = false) : ((r.fr == -1) = false ∧ (r.fr == fr) = false) ∨ (((r.fr == -1) = true ∨ ((r.fr == -1) = false ∧ (r.fr == fr) = true)) ∧ (r.to == -1) = false ∧ (r.to == to) = false) := by
  unfold Rules.zonesB at h
  revert h
  generalize (r.fr == -1) = a
  generalize (r.fr == fr) = b
  generalize (r.to == -1) = c
  generalize (r.to == to) = d
  revert a b c d
  decide
theorem Rules.pairs_mono (l : List Rules.Rule) (fr to : Int) (k : Nat) : ∀ d, ∃ r, Rules.pairs l fr to (k + d) = Rules.pairs l fr to k ++ r := by
  intro d
  induction d with
  | zero => exact ⟨[], by simp⟩
  | succ d ih =>
    obtain ⟨r, hr⟩ := ih
    rw [← Nat.add_assoc, Rules.pairs_succ, hr]
    exact ⟨_, List.append_assoc _ _ _⟩
theorem Rules.pairs_at {l : List Rules.Rule} {fr to : Int} {k m : Nat} (hk : k < m) (h : (Rules.rightB l && Rules.zonesB l[k]! fr to) = true) :
    (Rules.pairs l fr to k).length < (Rules.pairs l fr to m).length ∧ (Rules.pairs l fr to m)[(Rules.pairs l fr to k).length]? = some k := by
  obtain ⟨r, hr⟩ := Rules.pairs_mono l fr to (k + 1) (m - (k + 1))
  rw [show k + 1 + (m - (k + 1)) = m by omega, Rules.pairs_succ, if_pos h] at hr
  rw [hr]
  constructor
  · simp
  · simp
theorem Rules.pairs_none {l : List Rules.Rule} {fr to : Int} (h : Rules.rightB l = false) (k : Nat) : Rules.pairs l fr to k = [] := by
  unfold Rules.pairs
  rw [h]
  simp
theorem own_fst {w : World} {base : Nat} {e : TypeId} {s n c : Nat} {A : Option Addr} {xs : List Value} (h : w.ownsRow base e s (.slice A n c) n xs) (hn : 0 < n) : ∃ g, A = some ⟨g, 0, none⟩ ∧ base ≤ g ∧ g < w.heap.size := by
  rcases h.2 with ⟨hv, h0⟩ | ⟨g, cap, cur, hv, hb, hg, r⟩
  · omega
  · injection hv with hA
    exact ⟨g, hA, hb, (Array.getElem?_eq_some_iff.1 hg).1⟩
theorem own_num {w : World} {base : Nat} {e : TypeId} {n c : Nat} {A : Option Addr} {p : List Nat} (h : w.ownsRow base e 1 (.slice A n c) n (Rules.nums p)) {j k : Nat} (hk : p[j]? = some k) :
    ∃ g, A = some ⟨g, 0, none⟩ ∧ g < w.heap.size ∧ w.cell? ⟨g, j, none⟩ = some (.int .i64 (k : Int)) := by
  have hj := (List.getElem?_eq_some_iff.1 hk).1
  have hl : p.length = n := by have := h.1; simpa [Rules.nums] using this
  obtain ⟨g, rfl, hg, hg2⟩ := own_fst h (by omega)
  refine ⟨g, rfl, hg2, ?_⟩
  rw [h.cellAt j (by omega)]
  simp [Rules.nums, hk]
set_option maxRecDepth 8000 in
set_option maxHeartbeats 8000000 in
theorem rules_right (A : Option Addr) (n c : Nat) (l : List Rules.Rule) (r : Rules.Rule) (fr to : Int) (t : Rules.Tup) (w : World) (hrd : RdRow w A n l) (hr : ∀ r ∈ l, r.wf) (hrr : r.wf) (ht : t.wf) (hnc : n ≤ c) (hc : c ≤ 9223372036854775807) :
    Calls Try.prog 6 #[.slice A n c, .agg #[.int .i64 r.fr, .int .i64 r.to, .int .i64 r.proto, .int .u32 r.src, .int .u32 r.dst, .int .i64 r.sb, .int .i64 r.db, .int .i64 r.lo, .int .i64 r.hi, .int .i64 r.act], .int .i64 fr, .int .i64 to, .agg #[.int .i64 t.proto, .int .u32 t.src, .int .i64 t.sport, .int .u32 t.dst, .int .i64 t.dport]] w fun e w' => e = .returned (.bool true) ∧ Below w.heap.size w w' := by
  obtain ⟨W, hW⟩ : ∃ W, W = (w.alloc (.cells #[.int .i64 r.fr, .int .i64 r.to, .int .i64 r.proto, .int .u32 r.src, .int .u32 r.dst, .int .i64 r.sb, .int .i64 r.db, .int .i64 r.lo, .int .i64 r.hi, .int .i64 r.act] 32)).alloc (.cells #[.int .i64 t.proto, .int .u32 t.src, .int .i64 t.sport, .int .u32 t.dst, .int .i64 t.dport] 25) := ⟨_, rfl⟩
  have hbW : Below w.heap.size w W := by rw [hW]; exact ((Below.refl _ _).alloc (Nat.le_refl _) _).alloc (by simp) _
  have Br : RCells W w.heap.size r.cells := by rw [hW]; exact (RCells.new w r.cells 32).below ((Below.refl _ _).alloc (Nat.le_refl _) _)
  have Bt : RCells W (w.heap.size + 1) t.cells := by
    rw [hW]
    have := RCells.new (w.alloc (.cells #[.int .i64 r.fr, .int .i64 r.to, .int .i64 r.proto, .int .u32 r.src, .int .u32 r.dst, .int .i64 r.sb, .int .i64 r.db, .int .i64 r.lo, .int .i64 r.hi, .int .i64 r.act] 32)) t.cells 25
    have e : (w.alloc (.cells #[.int .i64 r.fr, .int .i64 r.to, .int .i64 r.proto, .int .u32 r.src, .int .u32 r.dst, .int .i64 r.sb, .int .i64 r.db, .int .i64 r.lo, .int .i64 r.hi, .int .i64 r.act] 32)).heap.size = w.heap.size + 1 := by simp
    rw [e] at this
    exact this
  obtain ⟨m, hmin0, hm, hmc, _⟩ := min_named n 100
  have hmin : (if (100 : Int) < (n : Int) then (100 : Int) else (n : Int)) = (m : Int) := hmin0
  clear hmin0
  have hrm := (hrd.below hbW).take (m := m) (by omega)
  have hwf : ∀ r ∈ l.take m, r.wf := fun r h => hr r (List.mem_of_mem_take h)
  generalize l.take m = l' at hrm hwf
  have hl' := hrm.1
  go_enter Try.func6, Try.ntmps6
  go_wp2_with fail
  rw [← hW]
  refine (rules_awake _).mono ?_
  rintro e w1 ⟨rfl, hb1⟩
  have r1 := hrm.below hb1
  obtain ⟨b0, b1, b2, b3, b4⟩ := (Bt.below hb1).five
  have hask := ask_spec A m c l' fr to t w1 r1 hwf ht
  clear hrd hW hrm
  have HR := Lib.hid hr
  clear hr
  go_wp2_with fail
  refine hask.mono ?_
  rintro e w2 ⟨rfl, hb2⟩
  clear b0 b1 b2 b3 b4 hask
  obtain ⟨b0, b1, b2, b3, b4⟩ := ((Bt.below hb1).below hb2).five
  have hask := rask_spec A m c l' fr to t w2 (r1.below hb2) hwf ht
  go_wp2_with fail
  refine hask.mono ?_
  rintro e w3 ⟨rfl, hb3⟩
  clear b0 b1 b2 b3 b4 hask
  have r3 := (r1.below hb2).below hb3
  have Br3 := ((Br.below hb1).below hb2).below hb3
  have Bt3 := ((Bt.below hb1).below hb2).below hb3
  have hbT := bel_then (bel_then (bel_then hbW hb1) hb2) hb3
  clear r1 Br Bt hb1 hb2 hb3 hbW
  have KF : Hid (∀ w' : World, Below w3.heap.size w3 w' → Below w3.heap.size w3 w' ∧ w'.cell? ⟨w.heap.size, 0, none⟩ = some (.int .i64 r.fr) ∧ w'.cell? ⟨w.heap.size, 1, none⟩ = some (.int .i64 r.to) ∧ w'.cell? ⟨w.heap.size, 2, none⟩ = some (.int .i64 r.proto) ∧ w'.cell? ⟨w.heap.size, 3, none⟩ = some (.int .u32 r.src) ∧ w'.cell? ⟨w.heap.size, 4, none⟩ = some (.int .u32 r.dst) ∧ w'.cell? ⟨w.heap.size, 5, none⟩ = some (.int .i64 r.sb) ∧ w'.cell? ⟨w.heap.size, 6, none⟩ = some (.int .i64 r.db) ∧ w'.cell? ⟨w.heap.size, 7, none⟩ = some (.int .i64 r.lo) ∧ w'.cell? ⟨w.heap.size, 8, none⟩ = some (.int .i64 r.hi) ∧ w'.cell? ⟨w.heap.size, 9, none⟩ = some (.int .i64 r.act) ∧ w'.cell? ⟨w.heap.size + 1, 0, none⟩ = some (.int .i64 t.proto) ∧ w'.cell? ⟨w.heap.size + 1, 1, none⟩ = some (.int .u32 t.src) ∧ w'.cell? ⟨w.heap.size + 1, 2, none⟩ = some (.int .i64 t.sport) ∧ w'.cell? ⟨w.heap.size + 1, 3, none⟩ = some (.int .u32 t.dst) ∧ w'.cell? ⟨w.heap.size + 1, 4, none⟩ = some (.int .i64 t.dport)) := Lib.hid fun w' hb => by
    obtain ⟨f0, f1, f2, f3, f4, f5, f6, f7, f8, f9⟩ := (Br3.below hb).ten
    obtain ⟨g0, g1, g2, g3, g4⟩ := (Bt3.below hb).five
    exact ⟨hb, f0, f1, f2, f3, f4, f5, f6, f7, f8, f9, g0, g1, g2, g3, g4⟩
  have cR : ∀ W', Below w3.heap.size w3 W' → Calls Try.prog 13 #[.slice A m c] W' fun e w' => e = .returned (.bool (Rules.rightB l')) ∧ Below w3.heap.size w3 w' := fun W' hb => (rulesRight_spec A m c l' W' (r3.below hb)).mono fun e w' ⟨he, h⟩ => ⟨he, bel_then hb h⟩
  have cRR : ∀ W', Below w3.heap.size w3 W' → Calls Try.prog 16 #[.slice A m c] W' fun e w' => e = .returned (.bool (Rules.rightB l')) ∧ Below w3.heap.size w3 w' := fun W' hb => (rright_spec A m c l' W' (r3.below hb)).mono fun e w' ⟨he, h⟩ => ⟨he, bel_then hb h⟩
  have cF : ∀ W', Below w3.heap.size w3 W' → Calls Try.prog 14 #[.agg #[.int .i64 r.fr, .int .i64 r.to, .int .i64 r.proto, .int .u32 r.src, .int .u32 r.dst, .int .i64 r.sb, .int .i64 r.db, .int .i64 r.lo, .int .i64 r.hi, .int .i64 r.act], .int .i64 fr, .int .i64 to, .agg #[.int .i64 t.proto, .int .u32 t.src, .int .i64 t.sport, .int .u32 t.dst, .int .i64 t.dport]] W' fun e w' => e = .returned (.bool (Rules.fitsB r fr to t)) ∧ Below w3.heap.size w3 w' := fun W' hb => (fits_spec r fr to t W' hrr ht).mono fun e w' ⟨he, h⟩ => ⟨he, bel_then hb h⟩
  have cRF : ∀ W', Below w3.heap.size w3 W' → Calls Try.prog 17 #[.agg #[.int .i64 r.fr, .int .i64 r.to, .int .i64 r.proto, .int .u32 r.src, .int .u32 r.dst, .int .i64 r.sb, .int .i64 r.db, .int .i64 r.lo, .int .i64 r.hi, .int .i64 r.act], .int .i64 fr, .int .i64 to, .agg #[.int .i64 t.proto, .int .u32 t.src, .int .i64 t.sport, .int .u32 t.dst, .int .i64 t.dport]] W' fun e w' => e = .returned (.bool (Rules.fitsB r fr to t)) ∧ Below w3.heap.size w3 w' := fun W' hb => (rfits_spec r fr to t W' hrr ht).mono fun e w' ⟨he, h⟩ => ⟨he, bel_then hb h⟩
  generalize Rules.askAct l' fr to t = ac
  generalize Rules.askAt l' fr to t = at_
  generalize hq : Rules.rightB l' = q at cR cRR
  have HQ := Lib.hid hq
  clear hq
  generalize Rules.fitsB r fr to t = f at cF cRF
  have ne1 : (q != q) = false := by simp
  have ne2 : (ac != ac) = false := by simp
  have ne3 : (at_ != at_) = false := by simp
  have ne4 : (f != f) = false := by simp
  go_wp2_with fail
  go_region_held3 (fun w' => Below w3.heap.size w3 w' ∧ w'.cell? ⟨w.heap.size, 0, none⟩ = some (.int .i64 r.fr) ∧ w'.cell? ⟨w.heap.size, 1, none⟩ = some (.int .i64 r.to) ∧ w'.cell? ⟨w.heap.size, 2, none⟩ = some (.int .i64 r.proto) ∧ w'.cell? ⟨w.heap.size, 3, none⟩ = some (.int .u32 r.src) ∧ w'.cell? ⟨w.heap.size, 4, none⟩ = some (.int .u32 r.dst) ∧ w'.cell? ⟨w.heap.size, 5, none⟩ = some (.int .i64 r.sb) ∧ w'.cell? ⟨w.heap.size, 6, none⟩ = some (.int .i64 r.db) ∧ w'.cell? ⟨w.heap.size, 7, none⟩ = some (.int .i64 r.lo) ∧ w'.cell? ⟨w.heap.size, 8, none⟩ = some (.int .i64 r.hi) ∧ w'.cell? ⟨w.heap.size, 9, none⟩ = some (.int .i64 r.act) ∧ w'.cell? ⟨w.heap.size + 1, 0, none⟩ = some (.int .i64 t.proto) ∧ w'.cell? ⟨w.heap.size + 1, 1, none⟩ = some (.int .u32 t.src) ∧ w'.cell? ⟨w.heap.size + 1, 2, none⟩ = some (.int .i64 t.sport) ∧ w'.cell? ⟨w.heap.size + 1, 3, none⟩ = some (.int .u32 t.dst) ∧ w'.cell? ⟨w.heap.size + 1, 4, none⟩ = some (.int .i64 t.dport)) (first | exact KF.out _ (below_drewN (Below.refl w3.heap.size w3) _) | exact KF.out _ hbn)
    (first
      | (go_at_call 13; refine (cR _ (by first | assumption | exact below_drewN (Below.refl w3.heap.size w3) _)).mono ?_; rintro e wn ⟨rfl, hbn⟩)
      | (go_at_call 16; refine (cRR _ (by first | assumption | exact below_drewN (Below.refl w3.heap.size w3) _)).mono ?_; rintro e wn ⟨rfl, hbn⟩)
      | (go_at_call 14; refine (cF _ (by first | assumption | exact below_drewN (Below.refl w3.heap.size w3) _)).mono ?_; rintro e wn ⟨rfl, hbn⟩)
      | (go_at_call 17; refine (cRF _ (by first | assumption | exact below_drewN (Below.refl w3.heap.size w3) _)).mono ?_; rintro e wn ⟨rfl, hbn⟩))
  have rn := r3.below hbn
  have hbU := bel_then hbT hbn
  have hpairs := pairs_spec A m c l' fr to wn rn (by omega)
  clear cR cRR cF cRF ne1 ne2 ne3 ne4 KF
  go_wp2_with fail
  refine hpairs.mono ?_
  rintro e w5 ⟨A5, c5, rfl, hown5, hb5⟩
  have hpl : (Rules.nums (Rules.pairs l' fr to m)).length = (Rules.pairs l' fr to m).length := by simp [Rules.nums]
  rw [hpl] at hown5 ⊢
  have hplm := Rules.pairs_len l' fr to m
  have r5 := rn.below hb5
  have hbV := bel_then hbU hb5
  obtain ⟨p, hp⟩ : ∃ p, p = (Rules.pairs l' fr to m).length := ⟨_, rfl⟩
  rw [← hp] at hown5 hplm ⊢
  have HP := Lib.hid hp
  clear hp hpl hpairs r3 rn Br3 Bt3 hbn hb5 hbT hbU
  go_wp2
  go_loopw [16, 17] (fun x i wr => ∃ k q : Nat, k ≤ m ∧ q ≤ k ∧ x = .int .i64 q ∧ i = .int .i64 k ∧ Below w5.heap.size w5 wr ∧ Hid (q = (Rules.pairs l' fr to k).length)) (fun _ i _ => m - (intOf i).toNat)
  case atStart => exact ⟨0, 0, by omega, by omega, rfl, rfl, Below.refl _ _, rfl⟩
  case round =>
    obtain ⟨k, j, hk, hjk, rfl, rfl, hbel, HJ⟩ := hrel
    have hbW := bel_then hbV hbel
    by_cases hlt : k < m
    · have hltz : (k : Int) < (m : Int) := by omega
      have hright := rright_spec A m c l' wr (r5.below hbel)
      cases hqq : q
      · rw [HQ.out, hqq] at hright
        have hp0 : j = p := by rw [HJ.out, HP.out, Rules.pairs_none (HQ.out.trans hqq), Rules.pairs_none (HQ.out.trans hqq)]
        subst hp0
        clear hqq
        go_wp2_with (go_at_call 16; refine (hright).mono ?_; rintro e w6 ⟨rfl, hb6⟩)
        go_ret
        exact ⟨ret_bool (by simp), bel_then hbW hb6⟩
      · rw [HQ.out, hqq] at hright
        have hrb := HQ.out.trans hqq
        go_wp2_with fail
        refine hright.mono ?_
        rintro e w6 ⟨rfl, hb6⟩
        have hbX := bel_then hbW hb6
        have hbel6 := bel_then hbel hb6
        obtain ⟨b, off, rfl, l2⟩ := (r5.below hbel6).2.2 k hlt
        have hps := Rules.pairs_succ l' fr to k
        have hpa := Rules.pairs_at (l := l') (fr := fr) (to := to) hlt
        rw [hrb] at hps hpa
        simp only [Bool.true_and] at hps hpa
        generalize l'[k]! = r' at l2 hps hpa
        obtain ⟨e0, e1, e2, e3, e4, e5, e6, e7, e8, e9⟩ := l2.ten
        have hlb := l2.1
        clear hright l2 e2 e3 e4 e5 e6 e7 e8 e9
        cases hz : Rules.zonesB r' fr to
        · rw [hz] at hps
          have HPS : Hid (j = (Rules.pairs l' fr to (k + 1)).length) := by
            show j = _
            rw [hps, HJ.out]; simp
          have hzz := Rules.zones_false hz
          clear hps hpa hz
          rcases hzz with ⟨z1, z2⟩ | ⟨z1 | ⟨z1, z2⟩, z3, z4⟩
          all_goals
            go_wp2
            go_roundw
            case rel => exact ⟨k + 1, j, by omega, by omega, by go_num, by go_num, hbel6, HPS⟩
            case measure => simp [intOf]; omega
        · rw [hz] at hps
          obtain ⟨hp1, hp2⟩ := hpa hz
          rw [← HJ.out, ← HP.out] at hp1
          rw [← HJ.out] at hp2
          have HPS : Hid (j + 1 = (Rules.pairs l' fr to (k + 1)).length) := by
            show j + 1 = _
            rw [hps, List.length_append, ← HJ.out]; simp
          obtain ⟨g, rfl, hg, hgc⟩ := own_num hown5 hp2
          have hgc6 := (hbel6.cell (p := ⟨g, j, none⟩) hg).trans hgc
          have hjp : ¬ (p : Int) ≤ (j : Int) := by omega
          have hjp2 : (j : Int) < (p : Int) := by omega
          have hkk : ((k : Int) != (k : Int)) = false := by simp
          have hzz := Rules.zones_true hz
          clear hps hpa hz hp2 hgc
          obtain ⟨z1 | ⟨z1, z2⟩, z3 | ⟨z3, z4⟩⟩ := hzz
          all_goals
            go_wp2
            go_roundw
            case rel => exact ⟨k + 1, j + 1, by omega, by omega, by go_num, by go_num, hbel6, HPS⟩
            case measure => simp [intOf]; omega
    · have hltz : ¬ (k : Int) < (m : Int) := by omega
      have : k = m := by omega
      subst this
      have hp0 : j = p := by rw [HJ.out, HP.out]
      subst hp0
      go_wp2
      go_ret
      exact ⟨ret_bool (by simp), hbW⟩
end Go.Proofs.Ytdocojhjknhjnaa
