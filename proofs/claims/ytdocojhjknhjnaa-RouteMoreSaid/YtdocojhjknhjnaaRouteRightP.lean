/- The walks of route.Right and its closure. -/
import Derived.Test.YtdocojhjknhjnaaRouteWalks
namespace Go.Proofs.Ytdocojhjknhjnaa
open Go.RowKit
set_option linter.unusedVariables false
theorem RdRoutes.take {w : World} {A : Option Addr} {n : Nat} {l : List Route.R} (h : RdRoutes w A n l) {m : Nat} (hm : m ≤ n) : RdRoutes w A m (l.take m) :=
  ⟨by have := h.1; simp; omega, by have := h.2.1; omega, fun j hj => by
    obtain ⟨b, off, e, h1⟩ := h.2.2 j (by omega)
    have : (l.take m)[j]! = l[j]! := by
      rw [getElem!_pos _ j (by have := h.1; simp; omega), getElem!_pos l j (by have := h.1; omega)]; simp
    exact ⟨b, off, e, by rw [this]; exact h1⟩⟩
set_option maxHeartbeats 1000000 in
theorem same_spec (r x : Route.R) (W : World) (g : Nat) (hg : RCells W g r.cells) :
    Calls Try.prog 39 #[.agg #[.int .u32 x.net, .int .i64 x.bits, .int .i64 x.zone, .int .i64 x.mtu], .pointer (some ⟨g, 0, none⟩)] W fun e w' => e = .returned (.bool (Route.sameB r x)) ∧ Below W.heap.size W w' := by
  unfold Route.sameB
  have l1 := hg.1
  have c0 : W.cell? ⟨g, 0, none⟩ = some (.int .u32 r.net) := hg.2 0 _ rfl
  have c1 : W.cell? ⟨g, 1, none⟩ = some (.int .i64 r.bits) := hg.2 1 _ rfl
  clear hg
  cases h1 : (x.net == r.net)
  · go_enter Try.func39, Try.ntmps39
    go_wp2
    go_ret
    exact ⟨ret_bool (by simp), (Below.refl _ _).alloc (Nat.le_refl _) _⟩
  · go_enter Try.func39, Try.ntmps39
    go_wp2
    go_ret
    exact ⟨ret_bool (by simp), (Below.refl _ _).alloc (Nat.le_refl _) _⟩
theorem Route.right_no {l : List Route.R} {k : Nat} (hk : k < l.length) (h : Route.stepB l k = false) : Route.rightB l = false := by
  unfold Route.rightB
  rw [Bool.and_eq_false_iff]
  right
  rw [List.all_eq_false]
  exact ⟨k, by simpa using hk, by rw [h]; simp⟩
theorem Route.right_yes {l : List Route.R} (h64 : l.length ≤ 64) (h : ∀ j, j < l.length → Route.stepB l j = true) : Route.rightB l = true := by
  unfold Route.rightB
  rw [Bool.and_eq_true, decide_eq_true_eq, List.all_eq_true]
  exact ⟨h64, fun j hj => h j (by simpa using hj)⟩
set_option maxHeartbeats 4000000 in
theorem tright_spec (A : Option Addr) (n c : Nat) (l : List Route.R) (w : World) (hrd : RdRoutes w A n l) (hwf : ∀ r ∈ l, r.wf) (hnc : n ≤ c) (hc : c ≤ 9223372036854775807) :
    Calls Try.prog 22 #[.slice A n c] w fun e w' => e = .returned (.bool (Route.rightB l)) ∧ Below w.heap.size w w' := by
  have hl := hrd.1
  have eg : ∀ args w, (callFunc 39 args).run Try.prog w = .ok (.enter 39 args) w := enters_of Try.func39 (by kernel_rfl) rfl
  by_cases h64 : 64 < n
  · have h1 : (64 : Int) < (n : Int) := by omega
    have h2 : Route.rightB l = false := by unfold Route.rightB; simp; omega
    rw [h2]
    go_enter Try.func22, Try.ntmps22
    go_wp2
    go_ret
    exact ⟨rfl, Below.refl _ _⟩
  · have h1 : ¬ (64 : Int) < (n : Int) := by omega
    have HWF := Lib.hid hwf
    clear hwf
    go_enter Try.func22, Try.ntmps22
    go_wp2
    go_loopw [10] (fun i wr => ∃ k : Nat, k ≤ n ∧ i = .int .i64 k ∧ Below w.heap.size w wr ∧ Hid (∀ j, j < k → Route.stepB l j = true)) (fun i _ => n - (intOf i).toNat)
    case atStart => exact ⟨0, by omega, rfl, Below.refl _ _, Lib.hid fun j hj => absurd hj (Nat.not_lt_zero _)⟩
    case round =>
      obtain ⟨k, hk, rfl, hbel, HM⟩ := hrel
      by_cases hlt : k < n
      · have hltz : (k : Int) < (n : Int) := by omega
        have hrw := hrd.below hbel
        obtain ⟨b, off, rfl, l2⟩ := hrw.2.2 k hlt
        have hrwf : (l[k]!).wf := HWF.out _ (by rw [getElem!_pos l k (by omega)]; exact List.getElem_mem _)
        have HNO := Lib.hid (fun h => Route.right_no (l := l) (k := k) (by omega) h)
        have hst : Route.stepB l k = (Route.mayB l[k]! && !((l.take k).any (Route.sameB l[k]!))) := rfl
        generalize l[k]! = r at l2 hrwf hst
        obtain ⟨e0, e1, e2, e3⟩ := l2.four
        have hlb := l2.1
        obtain ⟨W, hW⟩ : ∃ W, W = wr.alloc (.cells #[.int .u32 r.net, .int .i64 r.bits, .int .i64 r.zone, .int .i64 r.mtu] 40) := ⟨_, rfl⟩
        have hbW : Below wr.heap.size wr W := by rw [hW]; exact (Below.refl _ _).alloc (Nat.le_refl _) _
        have Br : RCells W wr.heap.size r.cells := by rw [hW]; exact RCells.new wr r.cells 40
        have hmay := tmay_spec r W hrwf
        have hbelW := hbel.trans (hbW.mono hbel.size)
        cases hm : Route.mayB r
        · rw [hm] at hmay hst
          have HN := Lib.hid (HNO.out (by rw [hst]; rfl))
          clear hst hrd hrw l2 Br
          go_wp2_with fail
          rw [← hW]
          refine hmay.mono ?_
          rintro e w2 ⟨rfl, hb2⟩
          clear hmay
          go_wp2
          go_ret
          exact ⟨ret_bool HN.out.symm, bel_then hbelW hb2⟩
        · rw [hm, Bool.true_and] at hst
          rw [hm] at hmay
          clear l2
          go_wp2_with fail
          rw [← hW]
          refine hmay.mono ?_
          rintro e w2 ⟨rfl, hb2⟩
          clear e0 e1 e2 e3
          have hbel2 := bel_then hbelW hb2
          have hcont := containsFuncT_spec 39 #[.pointer (some ⟨wr.heap.size, 0, none⟩)] (Route.sameB r) (fun _ => True) (some ⟨b, off, none⟩) k c (l.take k) w2 eg
            (fun W' x _ hW' => same_spec r x W' wr.heap.size ((Br.below hb2).below hW')) (fun _ _ => trivial) ((hrd.below hbel2).take (by omega))
          have hkc : (k : Int) ≤ (c : Int) := by omega
          cases hany : (l.take k).any (Route.sameB r)
          · rw [hany] at hcont hst
            have HST := Lib.hid hst
            clear hst hrd hrw hmay eg Br hW hm hany
            go_wp2_with (go_at_call 38; refine (hcont).mono ?_; rintro e w3 ⟨rfl, hb3⟩)
            go_roundw
            case rel =>
              refine ⟨k + 1, by omega, by go_num, bel_then hbel2 hb3, Lib.hid fun j hj => ?_⟩
              by_cases e : j = k
              · subst e; rw [HST.out]; rfl
              · exact HM.out j (by omega)
            case measure => simp [intOf]; omega
          · rw [hany] at hcont hst
            have HN := Lib.hid (HNO.out (by rw [hst]; rfl))
            clear hst hrd hrw hmay eg Br hW hm hany
            go_wp2_with (go_at_call 38; refine (hcont).mono ?_; rintro e w3 ⟨rfl, hb3⟩)
            go_ret
            exact ⟨ret_bool HN.out.symm, bel_then hbel2 hb3⟩
      · have hltz : ¬ (k : Int) < (n : Int) := by omega
        have : k = n := by omega
        subst this
        go_wp2
        go_ret
        refine ⟨ret_bool ?_, hbel⟩
        rw [Route.right_yes (by omega) (by rw [hl]; exact HM.out)]
end Go.Proofs.Ytdocojhjknhjnaa
