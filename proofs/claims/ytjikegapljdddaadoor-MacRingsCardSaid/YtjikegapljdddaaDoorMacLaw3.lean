/- The walk of MacRings. -/
import Derived.Test.YtjikegapljdddaaDoorMacRef4
import Derived.Test.YtjikegapljdddaaDoorMacAw
namespace Go.Proofs.YtjikegapljdddaaDoor
open Go.RowKit
set_option linter.unusedVariables false
theorem own_grown0 {w w' : World} {base : Nat} {e : TypeId} {s n : Nat} {v : Value} {xs : List Value} (h : w.ownsRow base e s v n xs) (hg : w.grownBy w' none) : w'.ownsRow base e s v n xs :=
  h.kept hg (by rcases v.ownBlock with _ | k <;> simp)
theorem own_cap {w : World} {base : Nat} {e : TypeId} {n c : Nat} {A : Option Addr} {xs : List Value} (h : w.ownsRow base e 1 (.slice A n c) n xs) : n ≤ c := by
  rcases h.2 with ⟨hv, h0⟩ | ⟨g0, cap, cur, hv, _, _, h1, _⟩
  · omega
  · injection hv with _ _ h3
    omega
set_option maxRecDepth 4000 in
set_option maxHeartbeats 8000000 in
theorem macrings_walk (A : Option Addr) (n c : Nat) (rs : List Mac.Key) (B : Option Addr) (m d : Nat) (key : List Int) (D : Option Addr) (p f : Nat) (b : List Int) (nn u : Int) (w : World) (hT : Tabs w) (hK : TabK w) (hr0 : Mac.Ring0 w A n rs) (hnc : n ≤ c) (hc : c ≤ 9223372036854775807)
    (hB : Rd w 1 B m (bs key)) (hk8 : isB key) (hD : Rd w 1 D p (bs b)) (hb8 : isB b) :
    Calls Tryd.prog 7 #[.slice A n c, .slice B m d, .slice D p f, .int .i64 nn, .int .u32 u] w fun e w' => e = .returned (.bool true) ∧ Below w.heap.size w w' := by
  have HA := mac_awake w hT
  have HT := Lib.hid hT
  have HK := Lib.hid hK
  have HR0 := Lib.hid hr0
  have HB := Lib.hid hB
  have HD := Lib.hid hD
  have H8 := Lib.hid (And.intro hk8 hb8)
  have HL := Lib.hid hr0.len
  have hbig : n ≤ 9223372036854775807 := by omega
  clear hT hK hr0 hB hk8 hD hb8
  go_enter Tryd.func7, Tryd.ntmps7
  go_wp2_with fail
  refine HA.mono ?_
  rintro e w1 ⟨rfl, hb1⟩
  clear HA
  go_wp2_with fail
  refine (mshort_spec A n c rs w1 (HR0.out.below hb1) hbig).mono ?_
  rintro e w2 ⟨sb, rfl, hsb, rfl⟩
  have HSB := Lib.hid hsb
  clear hsb
  cases sb with
  | false =>
    go_wp2_with fail
    go_ret
    exact ⟨rfl, hb1⟩
  | true =>
  obtain ⟨hn4, hs300⟩ := HSB.out rfl
  have HR := Lib.hid (HR0.out.ring hs300)
  clear HSB hs300 HR0
  by_cases hm : 300 < m
  · have hmz : (300 : Int) < (m : Int) := by omega
    go_wp2_with fail
    go_ret
    exact ⟨rfl, hb1⟩
  have hmz : ¬ (300 : Int) < (m : Int) := by omega
  by_cases hp : 300 < p
  · have hpz : (300 : Int) < (p : Int) := by omega
    go_wp2_with fail
    go_ret
    exact ⟨rfl, hb1⟩
  have hpz : ¬ (300 : Int) < (p : Int) := by omega
  go_wp2_with fail
  go_loopg [11, 12] n (fun g s11 s12 wx => ∃ (i : Nat) (os : List Mac.Key) (A6 : Option Addr) (c6 : Nat), i + g = n ∧ os.length = i ∧ s12 = .int .i64 i ∧ s11 = .slice A6 i c6 ∧ wx.ownsRow w.heap.size 24 1 (.slice A6 i c6) i (os.map Mac.Key.val) ∧ (∀ k ∈ os, k.own wx w.heap.size) ∧ Hid (os.map (·.l) = (rs.take i).map (·.l)) ∧ Below w.heap.size w wx)
  case atStart => exact ⟨0, [], none, 0, by omega, rfl, rfl, rfl, World.ownsRow_nil _ _ _ _, (fun k hk => by cases hk), Lib.hid rfl, hb1⟩
  case round =>
    obtain ⟨i, os, A6, c6, hig, hj, rfl, rfl, hown, hos, hpre, hbx⟩ := hrel
    have hbx' := hbx.size
    have HO := Lib.hid hown
    have HOS := Lib.hid hos
    have HJ := Lib.hid hj
    clear hown hos hj hb1
    cases gk with
    | zero =>
      obtain rfl : i = n := by omega
      have hpe : os.map (·.l) = rs.map (·.l) := by rw [hpre.out, List.take_of_length_le (by rw [HL.out]; exact Nat.le_refl _)]
      have HPE := Lib.hid hpe
      have HOR : Hid (Mac.Ring wr A6 i os) := Lib.hid ⟨HJ.out, Rd.of_own HO.out, fun k hk => (HOS.out k hk).ok⟩
      have hi6 := own_cap HO.out
      obtain ⟨te, hte⟩ : ∃ te, te = Mac.turnE (rs.map (·.l)) key := ⟨_, rfl⟩
      obtain ⟨tu, htu⟩ : ∃ tu, tu = Mac.turn (rs.map (·.l)) key := ⟨_, rfl⟩
      obtain ⟨at0, hat⟩ : ∃ a, a = Mac.at_ (rs.map (·.l)) b nn u := ⟨_, rfl⟩
      have HX1 := mturn_spec A6 i c6 os B m d key wr HOR.out hi6 (by omega) (HB.out.below hbx) H8.out.1 (by omega)
      rw [HPE.out, ← hte, ← htu] at HX1
      have HX1 := Lib.hid HX1
      have HTE := Lib.hid hte
      have HTU := Lib.hid htu
      have HAT := Lib.hid hat
      clear hpe hte htu hat HO HOS hpre
      go_wp2_with fail
      refine HX1.out.mono ?_
      rintro e w3 ⟨A7, c7, rs7, rfl, hr7, hl7, hc7, hb3⟩
      have hbw3 := bel_then hbx hb3
      have HOR3 := Lib.hid (HOR.out.below hb3)
      have HR7 := Lib.hid hr7
      have HL7 := Lib.hid hl7
      obtain ⟨N7, hN7⟩ : ∃ N, N = rs7.length := ⟨_, rfl⟩
      rw [← hN7]
      rw [← hN7] at HR7
      have HN7 := Lib.hid hN7
      clear HX1 hr7 hl7 hc7 hb3 HOR hbx hN7
      have HX2 := rmturn_spec A i c rs B m d key w3 (HR.out.below hbw3) hnc (by omega) (HB.out.below hbw3) H8.out.1 (by omega)
      rw [← HTE.out, ← HTU.out] at HX2
      go_wp2_with fail
      refine HX2.mono ?_
      rintro e w4 ⟨A8, c8, N8, rs8, rfl, hr8, hl8, hb4⟩
      have hbw4 := bel_then hbw3 hb4
      have HOR4 := Lib.hid (HOR3.out.below hb4)
      have HR74 := Lib.hid (HR7.out.below hb4)
      have HR8 := Lib.hid hr8
      have HL8 := Lib.hid hl8
      clear HX2 hr8 hl8 hb4 HOR3 HR7 hbw3
      have HX3 := mcheck_spec A6 i c6 os D p f b nn u w4 (HT.out.below hbw4) HOR4.out (by omega) (HD.out.below hbw4) H8.out.2 (by omega)
      rw [HPE.out, ← HAT.out] at HX3
      go_wp2_with fail
      refine HX3.mono ?_
      rintro e w5 ⟨rfl, hb5⟩
      have hbw5 := bel_then hbw4 hb5
      have HOR5 := Lib.hid (HOR4.out.below hb5)
      have HR75 := Lib.hid (HR74.out.below hb5)
      have HR85 := Lib.hid (HR8.out.below hb5)
      clear HX3 hb5 HOR4 HR74 HR8 hbw4
      have HX4 := rmcheck_spec A i c rs D p f b nn u w5 (HK.out.below hbw5) (HR.out.below hbw5) (by omega) (HD.out.below hbw5) H8.out.2 (by omega)
      rw [← HAT.out] at HX4
      generalize max at0 0 = m0 at HX4
      generalize decide (0 ≤ at0) = q0 at HX4
      go_wp2_with fail
      refine HX4.mono ?_
      rintro e w6 ⟨rfl, hb6⟩
      have hbw6 := bel_then hbw5 hb6
      have HOR6 := Lib.hid (HOR5.out.below hb6)
      have HR76 := Lib.hid (HR75.out.below hb6)
      have HR86 := Lib.hid (HR85.out.below hb6)
      clear HX4 hb6 HOR5 HR75 HR85 hbw5
      have hN : N8 = N7 := by
        have h1 := HR86.out.len
        have h2 := HN7.out
        have h3 := congrArg List.length (HL7.out.trans HL8.out.symm)
        simp at h3
        omega
      subst hN
      have hN8b : N8 ≤ 9223372036854775807 := by
        have h1 := HR86.out.len
        have h3 := congrArg List.length HL8.out
        rw [HTU.out] at h3
        unfold Mac.turn at h3
        have h4 := HL.out
        split at h3 <;> simp at h3 <;> omega
      have HX5 := msame_spec A7 N8 c7 rs7 A8 c8 rs8 w6 HR76.out HR86.out (HL7.out.trans HL8.out.symm) hN8b
      go_wp2_with fail
      refine HX5.mono ?_
      rintro e w7 ⟨rfl, q, rfl⟩
      have hbw7 := bel_drN2 hbw6 q
      have HX6 := msame_spec A6 i c6 os A c rs (w6.drewN q) (HOR6.out.below (bel_drN2 (Below.refl _ _) q)) (HR.out.below hbw7) HPE.out (by omega)
      clear HX5
      go_wp2_with fail
      refine HX6.mono ?_
      rintro e w8 ⟨rfl, q2, rfl⟩
      have hbw8 := bel_drN2 hbw7 q2
      clear HX6
      go_wp2_with fail
      go_ret
      exact ⟨rfl, bel_drN2 hbw6 _⟩
    | succ g =>
      have hi : i < n := by omega
      have hiz : (i : Int) < (n : Int) := by omega
      obtain ⟨b0, off, k, hAe, hbs, hc0, hmem, hk⟩ := (HR.out.below hbx).cell hi
      have hkok := (HR.out.below hbx).keys k hmem
      have HKO := Lib.hid hkok
      have HSN : Hid ((rs.take (i + 1)).map (·.l) = (rs.take i).map (·.l) ++ [k.l]) := Lib.hid (by
        have := hk.out
        rw [List.take_add_one, this]
        simp)
      clear hkok hmem hk
      subst hAe
      go_wp2_with (first | (at_builtin; refine wpList_app0 _ rfl (.tmp 43) (.tmp 47) 24 rfl w (by exact hbx) 5 (.int .u8 0) 1 1 Tryd.underlying24 pad_info8 rfl (by decide) rfl k.A k.n k.c (bs k.l) rfl (by exact HKO.out.rd) (one_bs _) (by have := HKO.out.small; unfold maxLen; omega) (by have := HKO.out.small; omega) ?_; intro A3 c3 w3 hown3 hb3 hg3 hat3; have hb3s := hb3.size; have HK3 : Hid (Mac.Key.own ⟨A3, k.n, c3, k.l⟩ w3 w.heap.size) := Lib.hid ⟨hown3, HKO.out.by8, HKO.out.small⟩; have HO3 := Lib.hid (own_grown0 HO.out hg3); have HOS3 : Hid (∀ k ∈ os, k.own w3 w.heap.size) := Lib.hid (fun k hk => ⟨own_grown0 (HOS.out k hk).row hg3, (HOS.out k hk).by8, (HOS.out k hk).small⟩); clear hown3 hg3 hat3) | (at_builtin; refine wpList_app _ rfl (.tmp 42) (.tmp 49) 35 rfl w (by exact hb3.alloc hb3s _) 24 (.slice none 0 0) 1 24 Tryd.underlying35 ring_info rfl (by decide) (.slice A6 i c6) i (os.map Mac.Key.val) rfl (by exact HO3.out.alloc _) (some ⟨_, 0, none⟩) 1 1 [.slice A3 k.n c3] rfl (by exact rd_one _ _ _) (one_sl _ _ _) (by unfold maxLen; omega) (by omega) ?_; intro A4 c4 w4 hown4 hb4 hg4 hat4))
      have hal := (Below.refl w3.heap.size w3).alloc (Nat.le_refl _) (.cells #[.slice A3 k.n c3] 24)
      have HOS4 : Hid (∀ k' ∈ os ++ [⟨A3, k.n, c3, k.l⟩], k'.own w4 w.heap.size) := Lib.hid fun k' hk' => by
        rcases List.mem_append.1 hk' with h | h
        · exact ((HOS3.out k' h).below hal).app (HO3.out.alloc _) hg4
        · rw [List.mem_singleton] at h
          subst h
          exact (HK3.out.below hal).app (HO3.out.alloc _) hg4
      have HO4 := Lib.hid hown4
      clear hown4 hg4 hat4 HOS3 HO3 HK3 hal
      go_roundg g
      case measure => omega
      case rel => exact ⟨i + 1, os ++ [⟨A3, k.n, c3, k.l⟩], A4, c4, by omega, by have := HJ.out; simp; omega, by go_num, rfl, by rw [List.map_append]; exact HO4.out, HOS4.out, Lib.hid (by rw [List.map_append, hpre.out, HSN.out]; rfl), hb4⟩
end Go.Proofs.YtjikegapljdddaaDoor
