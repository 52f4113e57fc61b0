/- The walk of CookieBits. -/
import Derived.Test.YtdnboohhplnnhaaDoorCookAw
namespace Go.Proofs.YtdnboohhplnnhaaDoor
open Go.RowKit
set_option linter.unusedVariables false
set_option maxHeartbeats 4000000 in
theorem cookiebits_walk (A : Option Addr) (n c : Nat) (l : List Int) (t : Cook.Tup) (hw : t.wf) (sq ep mss ot : Int) (hs0 : 0 ≤ sq) (hs1 : sq ≤ 4294967295) (w : World) (hT : Tabs w) (hR : Rd w 1 A n (bs l)) (hB : isB l) (hnc : n ≤ c) (hc : c ≤ 9223372036854775807) :
    Calls Tryd.prog 5 #[.slice A n c, .agg #[.int .i64 t.proto, .int .u32 t.src, .int .i64 t.sport, .int .u32 t.dst, .int .i64 t.dport], .int .u32 sq, .int .i64 ep, .int .i64 mss, .int .i64 ot] w fun e w' => e = .returned (.bool true) ∧ Below w.heap.size w w' := by
  obtain ⟨m, hmin0, hm1, hm2, HMIN⟩ := min_named n 200
  have hmin : (if (200 : Int) < (n : Int) then (200 : Int) else (n : Int)) = (m : Int) := hmin0
  clear hmin0
  obtain ⟨W, hW⟩ : ∃ W, W = w.alloc (.cells #[.int .i64 t.proto, .int .u32 t.src, .int .i64 t.sport, .int .u32 t.dst, .int .i64 t.dport] 25) := ⟨_, rfl⟩
  have hbW : Below w.heap.size w W := by rw [hW]; exact (Below.refl _ _).alloc (Nat.le_refl _) _
  have BT : BlkV W w.heap.size 25 [.int .i64 t.proto, .int .u32 t.src, .int .i64 t.sport, .int .u32 t.dst, .int .i64 t.dport] := by rw [hW]; exact BlkV.new _ _ _
  have K5 := Lib.hid (tup_c5 W t w.heap.size BT)
  have HA := Lib.hid (cook_awake W (hT.below hbW))
  have hmc : (m : Int) ≤ (c : Int) := by omega
  have hm0 : (0 : Int) ≤ (m : Int) := by omega
  have HM : Hid (∀ (w1 : World) (x : Int), Below W.heap.size W w1 → Calls Tryd.prog 8 #[.slice A m c, .agg #[.int .i64 t.proto, .int .u32 t.src, .int .i64 t.sport, .int .u32 t.dst, .int .i64 t.dport], .int .u32 sq, .int .i64 ep, .int .i64 x] w1 fun e w' => e = .returned (.tuple #[.int .u32 (if Cook.may t ep = true then Cook.one (l.take m) t sq ep (Cook.place x) else 0), .int .i64 (if Cook.may t ep = true then 0 else 1)]) ∧ Below w1.heap.size w1 w') := Lib.hid fun w1 x hb =>
    cmake_spec A m c (l.take m) t hw sq ep x hs0 hs1 w1 ((hT.below hbW).below hb) (((hR.btake hm1).below hbW).below hb) (hB.take m) (by omega)
  have HMAY : Hid (Cook.may t ep = true → 0 ≤ ep) := Lib.hid fun h => by simp [Cook.may] at h; omega
  generalize l.take m = key at HM
  have HP1 : Hid (∀ x : Int, 0 ≤ Cook.one key t sq ep (Cook.place x) ∧ Cook.one key t sq ep (Cook.place x) ≤ 4294967295 ∧ Cook.one key t sq ep (Cook.place x) / 16777216 % 8 = Cook.place x ∧ Cook.one key t sq ep (Cook.place x) / 134217728 = ep % 32) := Lib.hid fun x => by
    have h := Cook.one_parts key t sq ep (pl := Cook.place x) (by omega) (by have := Cook.place_le x; omega)
    exact ⟨h.1, h.2.1, h.2.2.1, h.2.2.2.1⟩
  clear hT hR hB BT
  cases hmay : Cook.may t ep
  · rw [hmay] at HM
    simp only [Bool.false_eq_true, if_false] at HM
    clear hmay HP1 HMAY
    go_enter Tryd.func5, Tryd.ntmps5
    go_upto_region 1 with (fail)
    rw [← hW]
    clear hW
    go_wp2_with fail
    refine HA.out.mono ?_
    rintro e w1 ⟨rfl, hb1⟩
    clear HA
    obtain ⟨a0, a1, a2, a3, a4⟩ := K5.out w1 hb1
    go_wp2_with fail
    refine (HM.out w1 mss hb1).mono ?_
    rintro e w2 ⟨rfl, hb2⟩
    go_wp2_with fail
    go_ret
    exact ⟨rfl, bel_then hbW (bel_then hb1 hb2)⟩
  · rw [hmay] at HM
    simp only [if_true] at HM
    have he0 := HMAY.out hmay
    clear hmay HMAY
    obtain ⟨v0, v1, v2, v3⟩ := HP1.out mss
    obtain ⟨u0, u1, u2, u3⟩ := HP1.out ot
    have hM1 := Lib.hid (fun (w1 : World) (hb : Below W.heap.size W w1) => HM.out w1 mss hb)
    have hM2 := Lib.hid (fun (w1 : World) (hb : Below W.heap.size W w1) => HM.out w1 ot hb)
    have hS1 := Lib.hid (csize_spec mss)
    have hS2 := Lib.hid (csize_spec ot)
    have hS3 := Lib.hid (csize_spec (Cook.sizeAt (Cook.place mss)))
    rw [Cook.place_size (Cook.place_le mss)] at hS3
    have hle := Cook.size_le mss
    have hp7 := Cook.place_le mss
    have hq7 := Cook.place_le ot
    have hone : Cook.place mss = Cook.place ot → Cook.one key t sq ep (Cook.place mss) = Cook.one key t sq ep (Cook.place ot) := fun h => by rw [h]
    clear HM HP1
    generalize Cook.one key t sq ep (Cook.place mss) = v at *
    generalize Cook.one key t sq ep (Cook.place ot) = u at *
    generalize Cook.place mss = p at *
    generalize Cook.place ot = q at *
    generalize Cook.sizeAt p = sz at *
    generalize Cook.sizeAt q = sy at *
    obtain ⟨a, ha⟩ : ∃ a, a = ep % 32 := ⟨_, rfl⟩
    have hm : Int.tmod ep 32 = a := by rw [Int.tmod_eq_emod_of_nonneg he0]; exact ha.symm
    have a0 : 0 ≤ a := by omega
    have a1 : a ≤ 31 := by omega
    have h27 : v / 134217728 = a := by omega
    have hA7 : Go.bits .and .u32 (v / 16777216) 7 = (p : Int) := by rw [bits_low .u32 3 7 rfl rfl (by decide)]; exact v2
    have hpq : (p = q ∧ v = u) ∨ (p ≠ q ∧ v ≠ u) := by
      rcases (show p = q ∨ p ≠ q by omega) with h | h
      · exact .inl ⟨h, hone h⟩
      · refine .inr ⟨h, fun e => ?_⟩
        subst e
        omega
    clear hone v2 v3 u2 u3 ha
    rcases hpq with ⟨rfl, rfl⟩ | ⟨h1, h2⟩
    · rcases (show sz ≤ mss ∨ (¬ sz ≤ mss ∧ p = 0) by omega) with h | ⟨h, rfl⟩
      all_goals
        clear hle
        go_enter Tryd.func5, Tryd.ntmps5
        go_upto_region 1 with (fail)
        rw [← hW]
        clear hW
        go_wp2_with fail
        refine HA.out.mono ?_
        rintro e w1 ⟨rfl, hb1⟩
        clear HA
        obtain ⟨e0, e1, e2, e3, e4⟩ := K5.out w1 hb1
        go_wp2_with fail
        refine (hM1.out w1 hb1).mono ?_
        rintro e w2 ⟨rfl, hb2⟩
        have hb2' := bel_then hb1 hb2
        obtain ⟨f0, f1, f2, f3, f4⟩ := K5.out w2 hb2'
        go_wp2_with fail
        refine (hS1.out w2).mono ?_
        rintro e w3 ⟨rfl, hb3⟩
        have hb3' := bel_then hb2' hb3
        go_wp2_with fail
        refine (hS2.out w3).mono ?_
        rintro e w4 ⟨rfl, hb4⟩
        have hb4' := bel_then hb3' hb4
        obtain ⟨g0, g1, g2, g3, g4⟩ := K5.out w4 hb4'
        go_wp2_with fail
        refine (hM2.out w4 hb4').mono ?_
        rintro e w5 ⟨rfl, hb5⟩
        have hb5' := bel_then hb4' hb5
        go_wp2_with fail
        refine (hS3.out w5).mono ?_
        rintro e w6 ⟨rfl, hb6⟩
        have hb6' := bel_then hb5' hb6
        go_wp2_with fail
        go_ret
        exact ⟨ret_bool (by simp [*]), bel_then hbW hb6'⟩
    · have h1z : ¬ (p : Int) = (q : Int) := by omega
      rcases (show sz ≤ mss ∨ (¬ sz ≤ mss ∧ p = 0) by omega) with h | ⟨h, h0⟩
      all_goals
        clear hle
        go_enter Tryd.func5, Tryd.ntmps5
        go_upto_region 1 with (fail)
        rw [← hW]
        clear hW
        go_wp2_with fail
        refine HA.out.mono ?_
        rintro e w1 ⟨rfl, hb1⟩
        clear HA
        obtain ⟨e0, e1, e2, e3, e4⟩ := K5.out w1 hb1
        go_wp2_with fail
        refine (hM1.out w1 hb1).mono ?_
        rintro e w2 ⟨rfl, hb2⟩
        have hb2' := bel_then hb1 hb2
        obtain ⟨f0, f1, f2, f3, f4⟩ := K5.out w2 hb2'
        go_wp2_with fail
        refine (hS1.out w2).mono ?_
        rintro e w3 ⟨rfl, hb3⟩
        have hb3' := bel_then hb2' hb3
        go_wp2_with fail
        refine (hS2.out w3).mono ?_
        rintro e w4 ⟨rfl, hb4⟩
        have hb4' := bel_then hb3' hb4
        obtain ⟨g0, g1, g2, g3, g4⟩ := K5.out w4 hb4'
        go_wp2_with fail
        refine (hM2.out w4 hb4').mono ?_
        rintro e w5 ⟨rfl, hb5⟩
        have hb5' := bel_then hb4' hb5
        go_wp2_with fail
        refine (hS3.out w5).mono ?_
        rintro e w6 ⟨rfl, hb6⟩
        have hb6' := bel_then hb5' hb6
        go_wp2_with fail
        go_ret
        exact ⟨ret_bool (by simp [*]), bel_then hbW hb6'⟩
end Go.Proofs.YtdnboohhplnnhaaDoor
