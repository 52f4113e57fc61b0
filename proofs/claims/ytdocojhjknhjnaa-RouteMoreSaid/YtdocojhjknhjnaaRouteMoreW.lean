/- The walk of RouteMore. -/
import Derived.Test.YtdocojhjknhjnaaRouteMoreP
import Derived.Deep.DeepCutAuto
import Derived.Deep.LoopGhost
import Derived.Deep.RegionHeld3
import Derived.Deep.Onto
namespace Go.Proofs.Ytdocojhjknhjnaa
open Go.RowKit
set_option linter.unusedVariables false
theorem own_fst4 {w : World} {base : Nat} {e : TypeId} {s n c : Nat} {A : Option Addr} {xs : List Value} (h : w.ownsRow base e s (.slice A n c) n xs) (hn : 0 < n) : ∃ g, A = some ⟨g, 0, none⟩ ∧ base ≤ g ∧ g < w.heap.size := by
  rcases h.2 with ⟨hv, h0⟩ | ⟨g, cap, cur, hv, hb, hg, r⟩
  · omega
  · injection hv with hA
    exact ⟨g, hA, hb, (Array.getElem?_eq_some_iff.1 hg).1⟩
open Route in
set_option maxRecDepth 8000 in
set_option maxHeartbeats 16000000 in
theorem route_more (A : Option Addr) (n c : Nat) (l : List Route.R) (bw : Int) (x : Route.R) (a : Int) (w : World) (hrd : RdRoutes w A n l) (hwf : ∀ r ∈ l, r.wf) (hnc : n ≤ c) (hc : c ≤ 9223372036854775807) (hx : x.wf) (b0 : 0 ≤ bw) (b1 : bw ≤ 255) (a0 : 0 ≤ a) (a1 : a ≤ 4294967295) :
    Calls Try.prog 9 #[.slice A n c, .int .u8 bw, .agg #[.int .u32 x.net, .int .i64 x.bits, .int .i64 x.zone, .int .i64 x.mtu], .int .u32 a] w fun e w' => e = .returned (.bool true) ∧ Below w.heap.size w w' := by
  obtain ⟨W, hW⟩ : ∃ W, W = w.alloc (.cells #[.int .u32 x.net, .int .i64 x.bits, .int .i64 x.zone, .int .i64 x.mtu] 40) := ⟨_, rfl⟩
  have hbW : Below w.heap.size w W := by rw [hW]; exact (Below.refl _ _).alloc (Nat.le_refl _) _
  have Bx : RCells W w.heap.size x.cells := by rw [hW]; exact RCells.new w x.cells 40
  have hl := hrd.1
  have HWF := Lib.hid hwf
  clear hwf
  by_cases h60 : 60 < n
  · have h1 : (60 : Int) < (n : Int) := by omega
    go_enter Try.func9, Try.ntmps9
    go_wp2_with fail
    rw [← hW]
    refine (route_awake _).mono ?_
    rintro e w1 ⟨rfl, hb1⟩
    clear hW hrd Bx h60
    go_wp2
    go_ret
    exact ⟨rfl, bel_then hbW hb1⟩
  · have h1 : ¬ (60 : Int) < (n : Int) := by omega
    cases hq : rightB l
    · go_enter Try.func9, Try.ntmps9
      go_wp2_with fail
      rw [← hW]
      refine (route_awake _).mono ?_
      rintro e w1 ⟨rfl, hb1⟩
      have hbT := bel_then hbW hb1
      have hright := tright_spec A n c l w1 (hrd.below hbT) HWF.out hnc hc
      rw [hq] at hright
      clear hW hrd Bx hq
      go_wp2_with (go_at_call 22; refine (hright).mono ?_; rintro e w2 ⟨rfl, hb2⟩)
      go_ret
      exact ⟨rfl, bel_then hbT hb2⟩
    · have HQ := Lib.hid hq
      go_enter Try.func9, Try.ntmps9
      go_wp2_with fail
      rw [← hW]
      refine (route_awake _).mono ?_
      rintro e w1 ⟨rfl, hb1⟩
      have hbT := bel_then hbW hb1
      have hright := tright_spec A n c l w1 (hrd.below hbT) HWF.out hnc hc
      rw [hq] at hright
      have HRD := Lib.hid hrd
      clear hW hrd hq
      go_wp2_with fail
      refine hright.mono ?_
      rintro e w2 ⟨rfl, hb2⟩
      have hbU := bel_then hbT hb2
      have BX := Lib.hid ((Bx.below hb1).below hb2)
      clear hright Bx
      go_wp2
      go_loopg [9, 10, 11] n (fun gg s9 s10 _ wr => ∃ (k : Nat) (At : Option Addr) (ct : Nat) (T : List R), k ≤ n ∧ n - k ≤ gg ∧ s9 = .slice At k ct ∧ s10 = .int .i64 k ∧ Below w2.heap.size w2 wr ∧ wr.ownsRow w2.heap.size 40 4 (.slice At k ct) k (tcells T) ∧ (k = 0 → At = none ∧ ct = 0) ∧ Hid (T.Perm (l.take k)))
      case atStart => exact ⟨0, none, 0, [], by omega, by omega, rfl, rfl, Below.refl _ _, by simpa [tcells] using World.ownsRow_nil _ _ _ _, fun _ => ⟨rfl, rfl⟩, Lib.hid (by simp)⟩
      case round =>
        obtain ⟨k, At, ct, T, hk, hg, rfl, rfl, hbel, hown, hzero, HT⟩ := hrel
        by_cases hlt : k < n
        · have hltz : (k : Int) < (n : Int) := by omega
          have hTl : T.length = k := by have := HT.out.length_eq; simp at this; omega
          obtain ⟨p, hp⟩ : ∃ p : Nat, bw % ((k : Int) + 1) = p := ⟨(bw % ((k : Int) + 1)).toNat, by have := Int.emod_nonneg bw (b := (k : Int) + 1) (by omega); omega⟩
          have hpk : p ≤ k := by have := Int.emod_lt_of_pos bw (b := (k : Int) + 1) (by omega); omega
          have hrr := HRD.out.below (bel_then hbU hbel)
          obtain ⟨b, off, rfl, l2⟩ := hrr.2.2 k hlt
          have HINS := Lib.hid (insert_perm (l := l) (t := T) (p := p) (by omega) HT.out)
          generalize hr : l[k]! = r at l2
          have HR := Lib.hid hr
          clear hr
          have hlb := l2.1
          have KF : Hid (∀ w' : World, Below wr.heap.size wr w' → Below wr.heap.size wr w' ∧ w'.cell? ⟨b, off + k * 4, none⟩ = some (.int .u32 r.net) ∧ w'.cell? ⟨b, off + k * 4 + 1, none⟩ = some (.int .i64 r.bits) ∧ w'.cell? ⟨b, off + k * 4 + 2, none⟩ = some (.int .i64 r.zone) ∧ w'.cell? ⟨b, off + k * 4 + 3, none⟩ = some (.int .i64 r.mtu)) := Lib.hid fun w' hb => by
            obtain ⟨f0, f1, f2, f3⟩ := RCells4.four (w := w') (b := b) (off := off + k * 4) (r := r) ⟨Nat.lt_of_lt_of_le l2.1 hb.size, fun i v hi => (hb.cell (p := ⟨b, off + k * 4 + i, none⟩) l2.1).trans (l2.2 i v hi)⟩
            exact ⟨hb, f0, f1, f2, f3⟩
          obtain ⟨hcp, hcm⟩ := own_cap hown
          have hcm2 : ct ≤ 9223372036854775807 := by unfold maxLen at hcm; omega
          have hpc : (p : Int) ≤ (ct : Int) := by omega
          have hpk2 : (p : Int) ≤ (k : Int) := by omega
          clear l2 hrr
          by_cases hk0 : k = 0
          · obtain ⟨rfl, rfl⟩ := hzero hk0
            obtain rfl : p = 0 := by omega
            have hTn : T = [] := List.eq_nil_of_length_eq_zero (by omega)
            have hRp : Rd wr 4 none 0 (tcells (T.take 0)) := by rw [hTn]; exact Rd.nil_ _
            have hRd : Rd wr 4 none (0 - 0) (tcells (T.drop 0)) := by rw [hTn]; exact Rd.nil_ _
            subst hk0
            have KF0 : Hid (∀ w' : World, Below wr.heap.size wr w' → Below wr.heap.size wr w' ∧ w'.cell? ⟨b, off, none⟩ = some (.int .u32 r.net) ∧ w'.cell? ⟨b, off + 1, none⟩ = some (.int .i64 r.bits) ∧ w'.cell? ⟨b, off + 2, none⟩ = some (.int .i64 r.zone) ∧ w'.cell? ⟨b, off + 3, none⟩ = some (.int .i64 r.mtu)) := Lib.hid fun w' hb => by
              have := KF.out w' hb
              simpa using this
            have hn0 : (0 : Int) < (n : Int) := by omega
            have hp' : bw % 1 = 0 := by omega
            clear hzero hTn hpk2 hpc hltz hp
            go_upto_region 10 with fail
            go_region_held3 (fun w' => Below wr.heap.size wr w' ∧ w'.cell? ⟨b, off, none⟩ = some (.int .u32 r.net) ∧ w'.cell? ⟨b, off + 1, none⟩ = some (.int .i64 r.bits) ∧ w'.cell? ⟨b, off + 2, none⟩ = some (.int .i64 r.zone) ∧ w'.cell? ⟨b, off + 3, none⟩ = some (.int .i64 r.mtu)) ((first | exact KF0.out _ hbn | exact KF0.out _ (bel_alloc hbn _) | exact KF0.out _ (bel_drew (bel_alloc hbn _)) | exact KF0.out _ (bel_drew hbn) | exact KF0.out _ (bel_alloc (Below.refl wr.heap.size wr) _) | exact KF0.out _ (bel_drew (bel_alloc (Below.refl wr.heap.size wr) _)) | exact KF0.out _ (bel_alloc (bel_drew (bel_alloc (Below.refl wr.heap.size wr) _)) _) | exact KF0.out _ (bel_drew (bel_alloc (bel_drew (bel_alloc (Below.refl wr.heap.size wr) _)) _)) | exact KF0.out _ (bel_alloc (bel_alloc (Below.refl wr.heap.size wr) _) _) | exact KF0.out _ (bel_drew (bel_alloc (bel_alloc (Below.refl wr.heap.size wr) _) _)) | exact KF0.out _ (below_drewN (Below.refl wr.heap.size wr) _))) (first | (refine step_app _ (by rfl) (.tmp 40) (.tmp 43) 38 (by rfl) wr (by first | exact hbn | exact (bel_alloc hbn _) | exact (bel_drew (bel_alloc hbn _)) | exact (bel_drew hbn) | exact (bel_alloc (Below.refl wr.heap.size wr) _) | exact (bel_drew (bel_alloc (Below.refl wr.heap.size wr) _)) | exact (bel_alloc (bel_drew (bel_alloc (Below.refl wr.heap.size wr) _)) _) | exact (bel_drew (bel_alloc (bel_drew (bel_alloc (Below.refl wr.heap.size wr) _)) _)) | exact (bel_alloc (bel_alloc (Below.refl wr.heap.size wr) _) _) | exact (bel_drew (bel_alloc (bel_alloc (Below.refl wr.heap.size wr) _) _)) | exact (below_drewN (Below.refl wr.heap.size wr) _)) 40 _ 4 32 Try.underlying38 info_route rfl (by decide) (.slice (some ⟨_, 0, none⟩) 0 0) 0 [] (by rfl) (by repeat (first | exact own_lit0 _ wr _ _ _ (by simp) (by simp) | apply World.ownsRow.drew | apply World.ownsRow.alloc)) none 0 0 (tcells (T.take 0)) (by rfl) (by repeat (first | exact hRp | apply Rd.drew | apply Rd.alloc)) (one_routes _) (by unfold maxLen; omega) (by omega) ?_; intro A4 c4 w4 hown4 hbn hg4; rw [Nat.zero_add, List.nil_append] at hown4; rw [Nat.zero_add]) | (refine step_app _ (by rfl) (.tmp 44) (.tmp 49) 38 (by rfl) wr (by first | exact hbn | exact (bel_alloc hbn _) | exact (bel_drew (bel_alloc hbn _)) | exact (bel_drew hbn) | exact (bel_alloc (Below.refl wr.heap.size wr) _) | exact (bel_drew (bel_alloc (Below.refl wr.heap.size wr) _)) | exact (bel_alloc (bel_drew (bel_alloc (Below.refl wr.heap.size wr) _)) _) | exact (bel_drew (bel_alloc (bel_drew (bel_alloc (Below.refl wr.heap.size wr) _)) _)) | exact (bel_alloc (bel_alloc (Below.refl wr.heap.size wr) _) _) | exact (bel_drew (bel_alloc (bel_alloc (Below.refl wr.heap.size wr) _) _)) | exact (below_drewN (Below.refl wr.heap.size wr) _)) 40 _ 4 32 Try.underlying38 info_route rfl (by decide) (.slice A4 0 c4) 0 (tcells (T.take 0)) (by rfl) (by repeat (first | exact hown4 | apply World.ownsRow.drew | apply World.ownsRow.alloc)) (some ⟨_, 0, none⟩) 1 1 r.cells (by rfl) (by repeat (first | exact rd_route _ r _ _ (by simp) | exact Rd.grown (by repeat (first | exact rd_route _ r _ _ (by simp) | apply Rd.drew | apply Rd.alloc)) hg4 (by simp) | apply Rd.drew | apply Rd.alloc)) (by rw [← tcells_one]; exact one_routes _) (by unfold maxLen; omega) (by omega) ?_; intro A5 c5 w5 hown5 hbn hg5) | (refine step_app _ (by rfl) (.tmp 50) (.tmp 53) 38 (by rfl) wr (by first | exact hbn | exact (bel_alloc hbn _) | exact (bel_drew (bel_alloc hbn _)) | exact (bel_drew hbn) | exact (bel_alloc (Below.refl wr.heap.size wr) _) | exact (bel_drew (bel_alloc (Below.refl wr.heap.size wr) _)) | exact (bel_alloc (bel_drew (bel_alloc (Below.refl wr.heap.size wr) _)) _) | exact (bel_drew (bel_alloc (bel_drew (bel_alloc (Below.refl wr.heap.size wr) _)) _)) | exact (bel_alloc (bel_alloc (Below.refl wr.heap.size wr) _) _) | exact (bel_drew (bel_alloc (bel_alloc (Below.refl wr.heap.size wr) _) _)) | exact (below_drewN (Below.refl wr.heap.size wr) _)) 40 _ 4 32 Try.underlying38 info_route rfl (by decide) (.slice A5 (0 + 1) c5) (0 + 1) (tcells (T.take 0) ++ r.cells) (by rfl) (by repeat (first | exact hown5 | apply World.ownsRow.drew | apply World.ownsRow.alloc)) none (0 - 0) 0 (tcells (T.drop 0)) (by rfl) (by first | exact hRd.below hbn | exact (hRd.below hbn).drew) (one_routes _) (by unfold maxLen; omega) (by omega) ?_; intro A6 c6 w6 hown6 hbn hg6; rw [show 0 + 1 + (0 - 0) = 0 + 1 by omega] at hown6 ⊢))
            all_goals
              clear KF hRp hRd
              go_wp2
              all_goals
                go_roundg (n - (0 + 1))
                case measure => omega
                case rel =>
                  refine ⟨0 + 1, A6, c6, T.take 0 ++ [l[0]!] ++ T.drop 0, by omega, by omega, rfl, by go_num, hbel.trans (hbn.mono hbel.size), ?_, fun h => by omega, HINS⟩
                  rw [tcells_app, tcells_app, HR.out, tcells_one]
                  exact hown6.mono hbel.size
          · obtain ⟨g, rfl, hgb, hgl⟩ := own_fst4 hown (by omega)
            have hTR := RdRoutes.of_own hown hTl (by omega)
            have hRp := (hTR.take (m := p) hpk).rd
            clear hzero hk0
            have hRd : Rd wr 4 (if ct = p then some ⟨g, 0, none⟩ else some ⟨g, p * 4, none⟩) (k - p) (tcells (T.drop p)) := by
              by_cases hpct : ct = p
              · have hkp : k = p := by omega
                rw [if_pos hpct, hkp, Nat.sub_self]
                have : T.drop p = [] := List.drop_eq_nil_of_le (by omega)
                rw [this]
                exact Rd.nil_ _
              · rw [if_neg hpct]
                have := (hTR.part hpk).rd
                rwa [Nat.zero_add] at this
            go_upto_region 10 with fail
            go_region_held3 (fun w' => Below wr.heap.size wr w' ∧ w'.cell? ⟨b, off + k * 4, none⟩ = some (.int .u32 r.net) ∧ w'.cell? ⟨b, off + k * 4 + 1, none⟩ = some (.int .i64 r.bits) ∧ w'.cell? ⟨b, off + k * 4 + 2, none⟩ = some (.int .i64 r.zone) ∧ w'.cell? ⟨b, off + k * 4 + 3, none⟩ = some (.int .i64 r.mtu)) ((first | exact KF.out _ hbn | exact KF.out _ (bel_alloc hbn _) | exact KF.out _ (bel_drew (bel_alloc hbn _)) | exact KF.out _ (bel_drew hbn) | exact KF.out _ (bel_alloc (Below.refl wr.heap.size wr) _) | exact KF.out _ (bel_drew (bel_alloc (Below.refl wr.heap.size wr) _)) | exact KF.out _ (bel_alloc (bel_drew (bel_alloc (Below.refl wr.heap.size wr) _)) _) | exact KF.out _ (bel_drew (bel_alloc (bel_drew (bel_alloc (Below.refl wr.heap.size wr) _)) _)) | exact KF.out _ (bel_alloc (bel_alloc (Below.refl wr.heap.size wr) _) _) | exact KF.out _ (bel_drew (bel_alloc (bel_alloc (Below.refl wr.heap.size wr) _) _)) | exact KF.out _ (below_drewN (Below.refl wr.heap.size wr) _))) (first | (refine step_app _ (by rfl) (.tmp 40) (.tmp 43) 38 (by rfl) wr (by first | exact hbn | exact (bel_alloc hbn _) | exact (bel_drew (bel_alloc hbn _)) | exact (bel_drew hbn) | exact (bel_alloc (Below.refl wr.heap.size wr) _) | exact (bel_drew (bel_alloc (Below.refl wr.heap.size wr) _)) | exact (bel_alloc (bel_drew (bel_alloc (Below.refl wr.heap.size wr) _)) _) | exact (bel_drew (bel_alloc (bel_drew (bel_alloc (Below.refl wr.heap.size wr) _)) _)) | exact (bel_alloc (bel_alloc (Below.refl wr.heap.size wr) _) _) | exact (bel_drew (bel_alloc (bel_alloc (Below.refl wr.heap.size wr) _) _)) | exact (below_drewN (Below.refl wr.heap.size wr) _)) 40 _ 4 32 Try.underlying38 info_route rfl (by decide) (.slice (some ⟨_, 0, none⟩) 0 0) 0 [] (by rfl) (by repeat (first | exact own_lit0 _ wr _ _ _ (by simp) (by simp) | apply World.ownsRow.drew | apply World.ownsRow.alloc)) (some ⟨g, 0, none⟩) p ct (tcells (T.take p)) (by rfl) (by repeat (first | exact hRp | apply Rd.drew | apply Rd.alloc)) (one_routes _) (by unfold maxLen; omega) (by omega) ?_; intro A4 c4 w4 hown4 hbn hg4; rw [Nat.zero_add, List.nil_append] at hown4; rw [Nat.zero_add]) | (refine step_app _ (by rfl) (.tmp 44) (.tmp 49) 38 (by rfl) wr (by first | exact hbn | exact (bel_alloc hbn _) | exact (bel_drew (bel_alloc hbn _)) | exact (bel_drew hbn) | exact (bel_alloc (Below.refl wr.heap.size wr) _) | exact (bel_drew (bel_alloc (Below.refl wr.heap.size wr) _)) | exact (bel_alloc (bel_drew (bel_alloc (Below.refl wr.heap.size wr) _)) _) | exact (bel_drew (bel_alloc (bel_drew (bel_alloc (Below.refl wr.heap.size wr) _)) _)) | exact (bel_alloc (bel_alloc (Below.refl wr.heap.size wr) _) _) | exact (bel_drew (bel_alloc (bel_alloc (Below.refl wr.heap.size wr) _) _)) | exact (below_drewN (Below.refl wr.heap.size wr) _)) 40 _ 4 32 Try.underlying38 info_route rfl (by decide) (.slice A4 p c4) p (tcells (T.take p)) (by rfl) (by repeat (first | exact hown4 | apply World.ownsRow.drew | apply World.ownsRow.alloc)) (some ⟨_, 0, none⟩) 1 1 r.cells (by rfl) (by repeat (first | exact rd_route _ r _ _ (by simp) | exact Rd.grown (by repeat (first | exact rd_route _ r _ _ (by simp) | apply Rd.drew | apply Rd.alloc)) hg4 (by simp) | apply Rd.drew | apply Rd.alloc)) (by rw [← tcells_one]; exact one_routes _) (by unfold maxLen; omega) (by omega) ?_; intro A5 c5 w5 hown5 hbn hg5) | (refine step_app _ (by rfl) (.tmp 50) (.tmp 53) 38 (by rfl) wr (by first | exact hbn | exact (bel_alloc hbn _) | exact (bel_drew (bel_alloc hbn _)) | exact (bel_drew hbn) | exact (bel_alloc (Below.refl wr.heap.size wr) _) | exact (bel_drew (bel_alloc (Below.refl wr.heap.size wr) _)) | exact (bel_alloc (bel_drew (bel_alloc (Below.refl wr.heap.size wr) _)) _) | exact (bel_drew (bel_alloc (bel_drew (bel_alloc (Below.refl wr.heap.size wr) _)) _)) | exact (bel_alloc (bel_alloc (Below.refl wr.heap.size wr) _) _) | exact (bel_drew (bel_alloc (bel_alloc (Below.refl wr.heap.size wr) _) _)) | exact (below_drewN (Below.refl wr.heap.size wr) _)) 40 _ 4 32 Try.underlying38 info_route rfl (by decide) (.slice A5 (p + 1) c5) (p + 1) (tcells (T.take p) ++ r.cells) (by rfl) (by repeat (first | exact hown5 | apply World.ownsRow.drew | apply World.ownsRow.alloc)) (if ct = p then some ⟨g, 0, none⟩ else some ⟨g, p * 4, none⟩) (k - p) (ct - p) (tcells (T.drop p)) (by rfl) (by first | exact hRd.below hbn | exact (hRd.below hbn).drew) (one_routes _) (by unfold maxLen; omega) (by omega) ?_; intro A6 c6 w6 hown6 hbn hg6; rw [show p + 1 + (k - p) = k + 1 by omega] at hown6 ⊢))
            all_goals
              clear KF hRp hRd
              go_wp2
              all_goals
                go_roundg (n - (k + 1))
                case measure => omega
                case rel =>
                  refine ⟨k + 1, A6, c6, T.take p ++ [l[k]!] ++ T.drop p, by omega, by omega, rfl, by go_num, hbel.trans (hbn.mono hbel.size), ?_, fun h => by omega, HINS⟩
                  rw [tcells_app, tcells_app, HR.out, tcells_one]
                  exact hown6.mono hbel.size
        · have hltz : ¬ (k : Int) < (n : Int) := by omega
          have : k = n := by omega
          subst this
          have hTl : T.length = k := by have := HT.out.length_eq; simp at this; omega
          have hperm : l.Perm T := by have := HT.out; rw [List.take_of_length_le (by omega)] at this; exact this.symm
          obtain ⟨hcp, hcm⟩ := own_cap hown
          have hcm2 : ct ≤ 9223372036854775807 := by unfold maxLen at hcm; omega
          obtain ⟨fo, fv⟩ := find_perm hperm HQ.out a
          have hTwf : ∀ r ∈ T, r.wf := fun r hm => HWF.out r (hperm.mem_iff.2 hm)
          have hbV := bel_then hbU hbel
          have hf1 := find_spec A k c l a wr (HRD.out.below hbV) HWF.out hnc hc a0 a1
          have hTR := RdRoutes.of_own hown hTl (by omega)
          have hf2 := fun W h => find_spec At k ct T a W h hTwf hcp hcm2 a0 a1
          rw [fo, fv] at hf2
          have HM := Lib.hid (fun h => find_more (l := l) (x := x) h a)
          generalize findV l a = rv at hf1 hf2 HM
          generalize findOk l a = ok at hf1 hf2 HM
          obtain ⟨y0, y1, y2, y3⟩ := rv
          have hcells : (R.mk y0 y1 y2 y3).cells.toArray = #[.int .u32 y0, .int .i64 y1, .int .i64 y2, .int .i64 y3] := rfl
          rw [hcells] at hf1 hf2
          have HF2 := Lib.hid hf2
          clear hcells fo fv hf2 hperm hTwf hzero hown
          go_wp2_with fail
          refine hf1.mono ?_
          rintro e w3 ⟨rfl, hb3⟩
          clear hf1
          have hbA : Below wr.heap.size wr (w3.alloc (.cells #[.int .u32 y0, .int .i64 y1, .int .i64 y2, .int .i64 y3] 40)) := hb3.trans ((Below.refl _ _).alloc hb3.size _)
          have B12 : RCells (w3.alloc (.cells #[.int .u32 y0, .int .i64 y1, .int .i64 y2, .int .i64 y3] 40)) w3.heap.size (R.mk y0 y1 y2 y3).cells := RCells.new w3 _ 40
          go_wp2_with fail
          refine (HF2.out _ (hTR.below hbA)).mono ?_
          rintro e w4 ⟨rfl, hb4⟩
          have hbB : Below (w3.alloc (.cells #[.int .u32 y0, .int .i64 y1, .int .i64 y2, .int .i64 y3] 40)).heap.size (w3.alloc (.cells #[.int .u32 y0, .int .i64 y1, .int .i64 y2, .int .i64 y3] 40)) (w4.alloc (.cells #[.int .u32 y0, .int .i64 y1, .int .i64 y2, .int .i64 y3] 40)) := hb4.trans ((Below.refl _ _).alloc hb4.size _)
          have B14 : RCells (w4.alloc (.cells #[.int .u32 y0, .int .i64 y1, .int .i64 y2, .int .i64 y3] 40)) w4.heap.size (R.mk y0 y1 y2 y3).cells := RCells.new w4 _ 40
          obtain ⟨c0, c1, c2, c3⟩ := RCells.route (B12.below hb4)
          have s0 : (y0 == y0) = true := by simp
          have s1 : (y1 == y1) = true := by simp
          have s2 : (y2 == y2) = true := by simp
          have s3 : (y3 == y3) = true := by simp
          have s4 : (ok != ok) = false := by simp
          have hlt4 : w3.heap.size < w4.heap.size := Nat.lt_of_lt_of_le (by simp) hb4.size
          have BXw := (BX.out.below hbel).below (bel_then hbA hb4)
          obtain ⟨m0, m1, m2, m3⟩ := RCells.route BXw
          have hltx : w.heap.size < w4.heap.size := BXw.1
          obtain ⟨W5, hW5⟩ : ∃ W5, W5 = w4.alloc (.cells #[.int .u32 y0, .int .i64 y1, .int .i64 y2, .int .i64 y3] 40) := ⟨_, rfl⟩
          rw [← hW5] at hbB B14
          have hbC := bel_then (bel_then hbV hbA) hbB
          have hRl := (HRD.out.below hbC).rd
          have BX5 := (BX.out.below hbel).below (bel_then hbA hbB)
          have B12' := B12.below hbB
          have KF : Hid (∀ w' : World, Below W5.heap.size W5 w' → Below W5.heap.size W5 w' ∧ w'.cell? ⟨w.heap.size, 0, none⟩ = some (.int .u32 x.net) ∧ w'.cell? ⟨w.heap.size, 1, none⟩ = some (.int .i64 x.bits) ∧ w'.cell? ⟨w.heap.size, 2, none⟩ = some (.int .i64 x.zone) ∧ w'.cell? ⟨w.heap.size, 3, none⟩ = some (.int .i64 x.mtu)) := Lib.hid fun w' hb => by
            obtain ⟨f0, f1, f2, f3⟩ := RCells.route (BX5.below hb)
            exact ⟨hb, f0, f1, f2, f3⟩
          clear BXw m0 m1 m2 m3 hltx
          go_wp2_with fail
          rw [← hW5]
          clear hW5 c0 c1 c2 c3 hb4
          go_cut [0] (fun s0 wx => ∃ A6 c6, s0 = .slice A6 (k + 1) c6 ∧ wx.ownsRow W5.heap.size 40 4 (.slice A6 (k + 1) c6) (k + 1) (tcells l ++ x.cells) ∧ Below W5.heap.size W5 wx)
          case first =>
            go_region_held3 (fun w' => Below W5.heap.size W5 w' ∧ w'.cell? ⟨w.heap.size, 0, none⟩ = some (.int .u32 x.net) ∧ w'.cell? ⟨w.heap.size, 1, none⟩ = some (.int .i64 x.bits) ∧ w'.cell? ⟨w.heap.size, 2, none⟩ = some (.int .i64 x.zone) ∧ w'.cell? ⟨w.heap.size, 3, none⟩ = some (.int .i64 x.mtu)) ((first | exact KF.out _ hbn | exact KF.out _ (bel_alloc hbn _) | exact KF.out _ (bel_drew (bel_alloc hbn _)) | exact KF.out _ (bel_drew hbn) | exact KF.out _ (bel_alloc (Below.refl W5.heap.size W5) _) | exact KF.out _ (bel_drew (bel_alloc (Below.refl W5.heap.size W5) _)) | exact KF.out _ (bel_alloc (bel_drew (bel_alloc (Below.refl W5.heap.size W5) _)) _) | exact KF.out _ (bel_drew (bel_alloc (bel_drew (bel_alloc (Below.refl W5.heap.size W5) _)) _)) | exact KF.out _ (bel_alloc (bel_alloc (Below.refl W5.heap.size W5) _) _) | exact KF.out _ (bel_drew (bel_alloc (bel_alloc (Below.refl W5.heap.size W5) _) _)) | exact KF.out _ (below_drewN (Below.refl W5.heap.size W5) _))) (first | (refine step_app _ (by rfl) (.tmp 75) (.tmp 76) 38 (by rfl) W5 (by first | exact hbn | exact (bel_alloc hbn _) | exact (bel_drew (bel_alloc hbn _)) | exact (bel_drew hbn) | exact (bel_alloc (Below.refl W5.heap.size W5) _) | exact (bel_drew (bel_alloc (Below.refl W5.heap.size W5) _)) | exact (bel_alloc (bel_drew (bel_alloc (Below.refl W5.heap.size W5) _)) _) | exact (bel_drew (bel_alloc (bel_drew (bel_alloc (Below.refl W5.heap.size W5) _)) _)) | exact (bel_alloc (bel_alloc (Below.refl W5.heap.size W5) _) _) | exact (bel_drew (bel_alloc (bel_alloc (Below.refl W5.heap.size W5) _) _)) | exact (below_drewN (Below.refl W5.heap.size W5) _)) 40 _ 4 32 Try.underlying38 info_route rfl (by decide) (.slice (some ⟨_, 0, none⟩) 0 0) 0 [] (by rfl) (by repeat (first | exact own_lit0 _ W5 _ _ _ (by simp) (by simp) | apply World.ownsRow.drew | apply World.ownsRow.alloc)) A k c (tcells l) (by rfl) (by repeat (first | exact hRl | apply Rd.drew | apply Rd.alloc)) (one_routes _) (by unfold maxLen; omega) (by omega) ?_; intro A4 c4 w7 hown4 hbn hg4; rw [Nat.zero_add, List.nil_append] at hown4; rw [Nat.zero_add]) | (refine step_app _ (by rfl) (.tmp 77) (.tmp 79) 38 (by rfl) W5 (by first | exact hbn | exact (bel_alloc hbn _) | exact (bel_drew (bel_alloc hbn _)) | exact (bel_drew hbn) | exact (bel_alloc (Below.refl W5.heap.size W5) _) | exact (bel_drew (bel_alloc (Below.refl W5.heap.size W5) _)) | exact (bel_alloc (bel_drew (bel_alloc (Below.refl W5.heap.size W5) _)) _) | exact (bel_drew (bel_alloc (bel_drew (bel_alloc (Below.refl W5.heap.size W5) _)) _)) | exact (bel_alloc (bel_alloc (Below.refl W5.heap.size W5) _) _) | exact (bel_drew (bel_alloc (bel_alloc (Below.refl W5.heap.size W5) _) _)) | exact (below_drewN (Below.refl W5.heap.size W5) _)) 40 _ 4 32 Try.underlying38 info_route rfl (by decide) (.slice A4 k c4) k (tcells l) (by rfl) (by repeat (first | exact hown4 | apply World.ownsRow.drew | apply World.ownsRow.alloc)) (some ⟨_, 0, none⟩) 1 1 x.cells (by rfl) (by repeat (first | exact rd_route _ x _ _ (by simp) | exact Rd.grown (by repeat (first | exact rd_route _ x _ _ (by simp) | apply Rd.drew | apply Rd.alloc)) hg4 (by simp) | apply Rd.drew | apply Rd.alloc)) (by rw [← tcells_one]; exact one_routes _) (by unfold maxLen; omega) (by omega) ?_; intro A6 c6 w8 hown6 hbn hg5))
            all_goals (go_wp2_with fail; go_meet; exact ⟨A6, c6, rfl, hown6, hbn⟩)
          case rest =>
          obtain ⟨A6, c6, rfl, hown6, hbn⟩ := hcut
          have hbD := bel_then hbC hbn
          rw [← tcells_one, ← tcells_app] at hown6
          obtain ⟨hc6, hc6m⟩ := own_cap hown6
          have hc6m2 : c6 ≤ 9223372036854775807 := by unfold maxLen at hc6m; omega
          have hlen6 : (l ++ [x]).length = k + 1 := by simp; omega
          have hR6 := RdRoutes.of_own hown6 hlen6 (by omega)
          have hwf6 : ∀ r ∈ l ++ [x], r.wf := fun r hm => by
            rcases List.mem_append.1 hm with h | h
            · exact HWF.out r h
            · rw [List.mem_singleton.1 h]; exact hx
          have hrg6 := tright_spec A6 (k + 1) c6 (l ++ [x]) wc hR6 hwf6 hc6 hc6m2
          have hin := fun W => in_spec a x.net x.bits W a0 a1 hx.1 hx.2
          cases hq6 : rightB (l ++ [x])
          · rw [hq6] at hrg6
            clear hq6 hRl KF BX5 B12' hR6
            go_wp2_with (go_at_call 22; refine (hrg6).mono ?_; rintro e w8 ⟨rfl, hb8⟩)
            go_ret
            exact ⟨rfl, bel_then hbD hb8⟩
          · rw [hq6] at hrg6
            have hmore := HM.out hq6
            have hf6 := fun W h => find_spec A6 (k + 1) c6 (l ++ [x]) a W h hwf6 hc6 hc6m2 a0 a1
            generalize findV (l ++ [x]) a = rv at hmore hf6
            generalize findOk (l ++ [x]) a = ok2 at hmore hf6
            obtain ⟨z0, z1, z2, z3⟩ := rv
            have hcells : (R.mk z0 z1 z2 z3).cells.toArray = #[.int .u32 z0, .int .i64 z1, .int .i64 z2, .int .i64 z3] := rfl
            have B12d := B12'.below hbn
            have BXd := BX5.below hbn
            clear hq6 hRl KF BX5 B12'
            go_wp2_with fail
            refine hrg6.mono ?_
            rintro e w8 ⟨rfl, hb8⟩
            have hf7 := hf6 w8 (hR6.below hb8)
            rw [hcells] at hf7
            have B12e := B12d.below hb8
            have BXe := BXd.below hb8
            clear hrg6 hf6 hcells
            go_wp2_with fail
            refine hf7.mono ?_
            rintro e w9 ⟨rfl, hb9⟩
            clear hf7
            obtain ⟨c0, c1, c2, c3⟩ := RCells.route (B12e.below hb9)
            obtain ⟨m0, m1, m2, m3⟩ := RCells.route (BXe.below hb9)
            have l12 := (B12e.below hb9).1
            have lx := (BXe.below hb9).1
            have hbE : Below w.heap.size w (w9.alloc (.cells #[.int .u32 z0, .int .i64 z1, .int .i64 z2, .int .i64 z3] 40)) := (bel_then (bel_then hbD hb8) hb9).alloc (bel_then (bel_then hbD hb8) hb9).size _
            rcases hmore with ⟨e1, e2⟩ | ⟨e1, e2⟩
            · obtain ⟨x0, x1, x2, x3⟩ := x
              injection e1 with g0 g1 g2 g3
              subst g0 g1 g2 g3
              have t0 : (z0 == z0) = true := by simp
              have t1 : (z1 == z1) = true := by simp
              have t2 : (z2 == z2) = true := by simp
              have t3 : (z3 == z3) = true := by simp
              have hin2 := fun W => hin W
              simp only [e2] at hin2
              have HI := Lib.hid hin2
              clear hin hin2
              go_wp2_with fail
              refine (HI.out _).mono ?_
              rintro e w10 ⟨rfl, rfl⟩
              go_wp2
              go_ret
              exact ⟨rfl, hbE⟩
            · injection e1 with g0 g1 g2 g3
              subst g0 g1 g2 g3 e2
              have HI := Lib.hid hin
              have s5 : ∀ q : Bool, (q == q) = true := by intro q; simp
              clear hin
              obtain ⟨x0, x1, x2, x3⟩ := x
              simp only at m0 m1 m2 m3
              cases q0 : (z0 == x0)
              · go_wp2
                go_ret
                exact ⟨ret_bool (by simp), hbE⟩
              · cases q1 : (z1 == x1)
                · go_wp2
                  go_ret
                  exact ⟨ret_bool (by simp), hbE⟩
                · cases q2 : (z2 == x2)
                  · go_wp2
                    go_ret
                    exact ⟨ret_bool (by simp), hbE⟩
                  · cases q3 : (z3 == x3)
                    · go_wp2
                      go_ret
                      exact ⟨ret_bool (by simp), hbE⟩
                    · simp only at HI
                      go_wp2_with fail
                      have hI := HI.out
                      cases hb : Net.inB a x0 x1
                      · simp only [hb] at hI
                        have HJ := Lib.hid hI
                        clear hI hb
                        refine (HJ.out _).mono ?_
                        rintro e w10 ⟨rfl, rfl⟩
                        go_wp2
                        go_ret
                        exact ⟨ret_bool (by simp), hbE⟩
                      · simp only [hb] at hI
                        have HJ := Lib.hid hI
                        clear hI hb
                        refine (HJ.out _).mono ?_
                        rintro e w10 ⟨rfl, rfl⟩
                        go_wp2
                        go_ret
                        exact ⟨ret_bool (by simp), hbE⟩
theorem RouteMore_walk (A : Option Addr) (n c : Nat) (l : List Route.R) (bw : Int) (x : Route.R) (a : Int) (w : World) (hrd : RdRoutes w A n l) (hwf : ∀ r ∈ l, r.wf) (hnc : n ≤ c) (hc : c ≤ 9223372036854775807) (wb : (Lit.int .u8 bw).wf = true) (hx : x.wf) (wa : (Lit.int .u32 a).wf = true) :
    Calls Try.prog 9 #[.slice A n c, .int .u8 bw, .agg x.cells.toArray, .int .u32 a] w fun e w' => e = .returned (.bool true) ∧ Below w.heap.size w w' :=
  route_more A n c l bw x a w hrd hwf hnc hc hx (bounds_u8 wb).1 (bounds_u8 wb).2 (bounds_u32 wa).1 (bounds_u32 wa).2
end Go.Proofs.Ytdocojhjknhjnaa
