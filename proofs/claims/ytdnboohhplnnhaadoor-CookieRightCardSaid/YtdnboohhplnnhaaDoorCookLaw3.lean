/- The walk of CookieRight. -/
import Derived.Test.YtdnboohhplnnhaaDoorCookAw
import Derived.Test.YtdnboohhplnnhaaDoorSameB
namespace Go.Proofs.YtdnboohhplnnhaaDoor
open Go.RowKit
set_option linter.unusedVariables false
attribute [local go_sem ↓] Go.wp_at_zero Go.wp_at_succ
set_option maxHeartbeats 4000000 in
theorem cookieright_walk (A : Option Addr) (n c : Nat) (l : List Int) (t : Cook.Tup) (hw : t.wf) (sq ep mss pl : Int) (hs0 : 0 ≤ sq) (hs1 : sq ≤ 4294967295) (w : World) (hT : Tabs w) (hK : TabK w) (hR : Rd w 1 A n (bs l)) (hB : isB l) (hnc : n ≤ c) (hc : c ≤ 9223372036854775807) :
    Calls Tryd.prog 3 #[.slice A n c, .agg #[.int .i64 t.proto, .int .u32 t.src, .int .i64 t.sport, .int .u32 t.dst, .int .i64 t.dport], .int .u32 sq, .int .i64 ep, .int .i64 mss, .int .i64 pl] w fun e w' => e = .returned (.bool true) ∧ Below w.heap.size w w' := by
  obtain ⟨m, hmin0, hm1, hm2, HMIN⟩ := min_named n 200
  have hmin : (if (200 : Int) < (n : Int) then (200 : Int) else (n : Int)) = (m : Int) := hmin0
  clear hmin0
  obtain ⟨W, hW⟩ : ∃ W, W = w.alloc (.cells #[.int .i64 t.proto, .int .u32 t.src, .int .i64 t.sport, .int .u32 t.dst, .int .i64 t.dport] 25) := ⟨_, rfl⟩
  have hbW : Below w.heap.size w W := by rw [hW]; exact (Below.refl _ _).alloc (Nat.le_refl _) _
  have BT : BlkV W w.heap.size 25 [.int .i64 t.proto, .int .u32 t.src, .int .i64 t.sport, .int .u32 t.dst, .int .i64 t.dport] := by rw [hW]; exact BlkV.new _ _ _
  have K5 : Hid (∀ w' : World, Below W.heap.size W w' → w'.cell? ⟨w.heap.size, 0, none⟩ = some (.int .i64 t.proto) ∧ w'.cell? ⟨w.heap.size, 1, none⟩ = some (.int .u32 t.src) ∧ w'.cell? ⟨w.heap.size, 2, none⟩ = some (.int .i64 t.sport) ∧ w'.cell? ⟨w.heap.size, 3, none⟩ = some (.int .u32 t.dst) ∧ w'.cell? ⟨w.heap.size, 4, none⟩ = some (.int .i64 t.dport)) := Lib.hid (tup_c5 W t w.heap.size BT)
  have HA := Lib.hid (cook_awake W (hT.below hbW))
  have hmc : (m : Int) ≤ (c : Int) := by omega
  have hm0 : (0 : Int) ≤ (m : Int) := by omega
  obtain ⟨v, hv⟩ : ∃ v, (if Cook.may t ep = true then Cook.one (l.take m) t sq ep (Cook.place mss) else 0) = v := ⟨_, rfl⟩
  obtain ⟨er, her⟩ : ∃ v : Int, (if Cook.may t ep = true then (0 : Int) else 1) = v := ⟨_, rfl⟩
  have HM : Hid (∀ (w1 : World), Below W.heap.size W w1 → Calls Tryd.prog 8 #[.slice A m c, .agg #[.int .i64 t.proto, .int .u32 t.src, .int .i64 t.sport, .int .u32 t.dst, .int .i64 t.dport], .int .u32 sq, .int .i64 ep, .int .i64 mss] w1 fun e w' => e = .returned (.tuple #[.int .u32 v, .int .i64 er]) ∧ Below w1.heap.size w1 w') := Lib.hid fun w1 hb => by
    rw [← hv, ← her]
    exact cmake_spec A m c (l.take m) t hw sq ep mss hs0 hs1 w1 ((hT.below hbW).below hb) (((hR.btake hm1).below hbW).below hb) (hB.take m) (by omega)
  have HMR : Hid (∀ (w1 : World), Below W.heap.size W w1 → Calls Tryd.prog 9 #[.slice A m c, .agg #[.int .i64 t.proto, .int .u32 t.src, .int .i64 t.sport, .int .u32 t.dst, .int .i64 t.dport], .int .u32 sq, .int .i64 ep, .int .i64 mss] w1 fun e w' => e = .returned (.tuple #[.int .u32 v, .int .i64 er]) ∧ Below w1.heap.size w1 w') := Lib.hid fun w1 hb => by
    rw [← hv, ← her]
    exact rmake_spec A m c (l.take m) t hw sq ep mss hs0 hs1 w1 ((hK.below hbW).below hb) (((hR.btake hm1).below hbW).below hb) (hB.take m) (by omega)
  have HS := Lib.hid (csize_spec mss)
  have HSR := Lib.hid (rsize_spec mss)
  have HTX := Lib.hid (ctext_spec t hw sq ep pl hs0 hs1)
  have HTR := Lib.hid (rtext_spec t hw sq ep pl hs0 hs1)
  have HTB := Lib.hid (Cook.text_isB t sq ep pl)
  generalize Cook.text t sq ep pl = tx at HTX HTR HTB
  have HSM : Hid (∀ (A B : Option Addr) (c d : Nat) (w : World), Rd w 1 A 22 (bs tx) → Rd w 1 B 22 (bs tx) → Calls Tryd.prog 12 #[.slice A 22 c, .slice B 22 d] w fun e w' => e = .returned (.bool true) ∧ ∃ q, w' = w.drewN q) := Lib.hid fun A B c d w ha hb => by
    have h := ref_same A B 22 c 22 d tx tx w ha hb HTB.out HTB.out (by omega)
    rw [show (tx == tx) = true by simp] at h
    exact h
  generalize Cook.sizeAt (Cook.place mss) = sz at HS HSR
  generalize Cook.place mss = p at HS HSR
  clear hv her hT hK hR hB BT hw
  go_enter Tryd.func3, Tryd.ntmps3
  go_upto_region 1 with (fail)
  rw [← hW]
  clear hW
  go_wp2_with fail
  refine HA.out.mono ?_
  rintro e w1 ⟨rfl, hb1⟩
  clear HA
  obtain ⟨e0, e1, e2, e3, e4⟩ := K5.out w1 hb1
  go_wp2_with fail
  refine (HM.out w1 hb1).mono ?_
  rintro e w2 ⟨rfl, hb2⟩
  have hb2' := bel_then hb1 hb2
  obtain ⟨f0, f1, f2, f3, f4⟩ := K5.out w2 hb2'
  go_wp2_with fail
  refine (HMR.out w2 hb2').mono ?_
  rintro e w3 ⟨rfl, hb3⟩
  have hb3' := bel_then hb2' hb3
  go_wp2_with fail
  refine (HS.out w3).mono ?_
  rintro e w4 ⟨rfl, hb4⟩
  have hb4' := bel_then hb3' hb4
  go_wp2_with fail
  refine (HSR.out w4).mono ?_
  rintro e w6 ⟨rfl, hb6⟩
  have hb6' := bel_then hb4' hb6
  have KF : Hid (∀ w' : World, Below w6.heap.size w6 w' → w'.cell? ⟨w.heap.size, 0, none⟩ = some (.int .i64 t.proto) ∧ w'.cell? ⟨w.heap.size, 1, none⟩ = some (.int .u32 t.src) ∧ w'.cell? ⟨w.heap.size, 2, none⟩ = some (.int .i64 t.sport) ∧ w'.cell? ⟨w.heap.size, 3, none⟩ = some (.int .u32 t.dst) ∧ w'.cell? ⟨w.heap.size, 4, none⟩ = some (.int .i64 t.dport)) := Lib.hid fun w' hb => K5.out w' (bel_then hb6' hb)
  have hbF := bel_then hbW hb6'
  clear K5 e0 e1 e2 e3 e4 f0 f1 f2 f3 f4 HM HMR HS HSR hb1 hb2 hb2' hb3 hb3' hb4 hb4' hb6 hb6'
  go_upto_region 8 with (fail)
  go_region_held3 (fun w' => w'.cell? ⟨w.heap.size, 0, none⟩ = some (.int .i64 t.proto) ∧ w'.cell? ⟨w.heap.size, 1, none⟩ = some (.int .u32 t.src) ∧ w'.cell? ⟨w.heap.size, 2, none⟩ = some (.int .i64 t.sport) ∧ w'.cell? ⟨w.heap.size, 3, none⟩ = some (.int .u32 t.dst) ∧ w'.cell? ⟨w.heap.size, 4, none⟩ = some (.int .i64 t.dport)) (exact KF.out _ (by repeat (first | with_reducible exact hbn | with_reducible exact Below.refl w6.heap.size w6 | with_reducible refine bel_al2 ?_ _ | with_reducible refine bel_dr2 ?_ | with_reducible refine bel_drN2 ?_ _)))
    (with_reducible first | (refine (HTX.out _).mono ?_; rintro e w7 ⟨A7, c7, rfl, hr7, hb7⟩; have hbn : Below w6.heap.size w6 w7 := bel_then (by repeat (first | with_reducible exact hbn | with_reducible exact Below.refl w6.heap.size w6 | with_reducible refine bel_al2 ?_ _ | with_reducible refine bel_dr2 ?_ | with_reducible refine bel_drN2 ?_ _)) hb7) | (refine (HTR.out _).mono ?_; rintro e w8 ⟨A8, c8, rfl, hr8, hb8⟩; have hbn : Below w6.heap.size w6 w8 := bel_then (by repeat (first | with_reducible exact hbn | with_reducible exact Below.refl w6.heap.size w6 | with_reducible refine bel_al2 ?_ _ | with_reducible refine bel_dr2 ?_ | with_reducible refine bel_drN2 ?_ _)) hb8) | (refine (HSM.out _ _ _ _ _ (hr7.below hb8) hr8).mono ?_; rintro e w9 ⟨rfl, q9, rfl⟩; have hbn : Below w6.heap.size w6 (w8.drewN q9) := bel_drN2 hbn q9))
  all_goals
    go_wp2_with fail
    go_ret
    exact ⟨rfl, bel_then hbF hbn⟩
end Go.Proofs.YtdnboohhplnnhaaDoor
