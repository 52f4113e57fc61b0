/- The walk of mac.Turn. -/
import Derived.Test.YtdnboohhplnnhaaDoorMacRg
import Derived.Deep.DeepCutAuto
namespace Go.Proofs.YtdnboohhplnnhaaDoor
open Go.RowKit
set_option linter.unusedVariables false
theorem own_apart {w : World} {b1 b2 : Nat} {e1 e2 : TypeId} {s1 s2 : Nat} {v1 v2 : Value} {n1 n2 : Nat} {xs ys : List Value} (h1 : w.ownsRow b1 e1 s1 v1 n1 xs) (h2 : w.ownsRow b2 e2 s2 v2 n2 ys) (hne : e1 ≠ e2) : v1.ownBlock = none ∨ v1.ownBlock ≠ v2.ownBlock := by
  rcases h1.2 with ⟨rfl, _⟩ | ⟨g, cap, cur, rfl, _, hg, _⟩
  · exact Or.inl rfl
  · refine Or.inr fun he => ?_
    rcases h2.2 with ⟨rfl, _⟩ | ⟨g', cap', cur', rfl, _, hg', _⟩
    · cases he
    · simp only [Value.ownBlock, Option.some.injEq] at he
      subst he
      rw [hg] at hg'
      injection hg' with hg'
      injection hg' with _ h3
      exact hne h3
namespace Mac
/-- a key in memory of the call's own -/
structure Key.own (k : Key) (w : World) (base : Nat) : Prop where
  row : w.ownsRow base 5 1 (.slice k.A k.n k.c) k.n (bs k.l)
  by8 : isB k.l
  small : k.n ≤ 4294960000
theorem Key.own.ok {k : Key} {w : World} {base : Nat} (h : k.own w base) : k.ok w := ⟨Rd.of_own h.row, h.by8, h.small⟩
theorem Key.own.below {k : Key} {w w' : World} {base : Nat} (h : k.own w base) (hb : Below w.heap.size w w') : k.own w' base := ⟨own_below h.row hb, h.by8, h.small⟩
theorem Key.own.app {k : Key} {w w' : World} {base b2 : Nat} (h : k.own w base) {v : Value} {n : Nat} {xs : List Value} (ho : w.ownsRow b2 22 1 v n xs) (hg : w.grownBy w' v.ownBlock) : k.own w' base :=
  ⟨h.row.kept hg (own_apart h.row ho (by decide)), h.by8, h.small⟩
def turn (ls : List (List Int)) (key : List Int) : List (List Int) := if right ls = true ∧ key.length ≤ 128 then key :: ls.take 1 else ls
def turnE (ls : List (List Int)) (key : List Int) : Int := if right ls = true ∧ key.length ≤ 128 then 0 else 12
end Mac
theorem ring_info : (Tryd.prog.info? 22).map (fun i => (i.zero, i.size, i.bytes)) = some (some (.slice none 0 0), 1, 24) := by kernel_rfl
theorem one_sl (A : Option Addr) (n c : Nat) : ∀ u ∈ [Value.slice A n c], u.oneCell' = true := by
  intro u hu
  rw [List.mem_singleton] at hu
  subst hu
  rfl
set_option maxHeartbeats 4000000 in
theorem mturn_spec (A : Option Addr) (n c : Nat) (rs : List Mac.Key) (B : Option Addr) (m d : Nat) (key : List Int) (w : World) (hr : Mac.Ring w A n rs) (hnc : n ≤ c) (hbig : n ≤ 4294960000) (hB : Rd w 1 B m (bs key)) (hk8 : isB key) (hm : m ≤ 4294960000) :
    Calls Tryd.prog 18 #[.slice A n c, .slice B m d] w fun e w' => ∃ A' c' rs', e = .returned (.tuple #[.slice A' rs'.length c', .int .i64 (Mac.turnE (rs.map (·.l)) key)]) ∧ Mac.Ring w' A' rs'.length rs' ∧ rs'.map (·.l) = Mac.turn (rs.map (·.l)) key ∧ rs'.length ≤ c' ∧ Below w.heap.size w w' := by
  have hl := hr.len
  have hkl := hB.blen
  have HR := Lib.hid hr
  have HB := Lib.hid hB
  have HRT := Lib.hid (mright_spec A n c rs w hr (by omega))
  have HK8 := Lib.hid hk8
  have HTE : Hid (Mac.turnE (rs.map (·.l)) key = if Mac.right (rs.map (·.l)) = true ∧ m ≤ 128 then 0 else 12) := Lib.hid (by unfold Mac.turnE; rw [hkl])
  have HTU : Hid (Mac.turn (rs.map (·.l)) key = if Mac.right (rs.map (·.l)) = true ∧ m ≤ 128 then key :: (rs.map (·.l)).take 1 else rs.map (·.l)) := Lib.hid (by unfold Mac.turn; rw [hkl])
  have HL := Lib.hid hl
  obtain ⟨rt, hrt⟩ : ∃ rt, Mac.right (rs.map (·.l)) = rt := ⟨_, rfl⟩
  obtain ⟨te, hte⟩ : ∃ te, te = Mac.turnE (rs.map (·.l)) key := ⟨_, rfl⟩
  rw [hrt] at HRT HTE HTU
  rw [← hte] at HTE ⊢
  clear hrt hte hr hB hk8 hl hkl
  obtain ⟨q, hq0, hq1, hq2⟩ : ∃ q : Nat, (if (1 : Int) < (n : Int) then (1 : Int) else (n : Int)) = (q : Int) ∧ q ≤ n ∧ q = min n 1 := by
    obtain ⟨q, h1, h2, h3, h4⟩ := min_named n 1
    exact ⟨q, h1, h2, h4.out⟩
  have HQ : Hid ([key] ++ (rs.take q).map (·.l) = key :: (rs.map (·.l)).take 1) := Lib.hid (by
    rw [hq2, List.map_take, List.singleton_append]
    congr 1
    rcases rs with _ | ⟨k0, r⟩
    · simp
    · have := HL.out
      simp at this
      rw [show min n 1 = 1 by omega])
  have hqc : (q : Int) ≤ (c : Int) := by omega
  clear hq2
  rcases (show (rt = true ∧ m ≤ 128) ∨ (rt = true ∧ ¬ m ≤ 128) ∨ rt = false by cases rt <;> simp <;> omega) with ⟨rfl, h128⟩ | ⟨rfl, h128⟩ | rfl
  · obtain rfl : te = 0 := by rw [HTE.out, if_pos ⟨rfl, h128⟩]
    have hz : (m : Int) ≤ 128 := by omega
    have HCL0 := Lib.hid (fun w' (hb : Below w.heap.size w w') => clone_spec B m d key w' (HB.out.below hb) (by omega))
    go_enter Tryd.func18, Tryd.ntmps18
    go_wp2_with fail
    refine HRT.out.mono ?_
    rintro e w1 ⟨rfl, hb1⟩
    clear HRT
    go_wp2_with fail
    go_quiet (fail)
    have hb2 : Below w.heap.size w (w1.drewN nq) := bel_drN2 hb1 nq
    obtain ⟨w2, hw2⟩ : ∃ w2, w2 = w1.drewN nq := ⟨_, rfl⟩
    rw [← hw2] at hb2
    clear hb1
    go_wp2_with fail
    rw [← hw2]
    clear hw2
    refine (HCL0.out w2 hb2).mono ?_
    rintro e w3 ⟨A3, c3, rfl, hown3, hb3⟩
    have hb3' := bel_then hb2 hb3
    have HK3 : Hid (Mac.Key.own ⟨A3, m, c3, key⟩ w3 w.heap.size) := Lib.hid ⟨own_weaken' hown3 hb2.size, HK8.out, hm⟩
    have hb3s := hb3'.size
    clear hown3 HCL0 hb3 hb2
    go_wp2_with (at_builtin; refine wpList_app _ rfl (.tmp 24) (.tmp 27) 37 rfl w (by exact hb3'.alloc hb3s _) 22 (.slice none 0 0) 1 24 Tryd.underlying37 ring_info rfl (by decide) (.slice none 0 0) 0 [] rfl (by exact World.ownsRow_nil _ _ _ _) (some ⟨_, 0, none⟩) 1 1 [.slice A3 m c3] rfl (by exact rd_one _ _ _) (one_sl _ _ _) (by unfold maxLen; omega) (by omega) ?_; intro A4 c4 w4 hown4 hb4 hg4 hat4)
    have hal := (Below.refl w3.heap.size w3).alloc (Nat.le_refl _) (.cells #[.slice A3 m c3] 22)
    have HOS4 : Hid (∀ k' ∈ [(⟨A3, m, c3, key⟩ : Mac.Key)], k'.own w4 w.heap.size) := Lib.hid fun k' hk' => by
      rw [List.mem_singleton] at hk'
      subst hk'
      exact (HK3.out.below hal).app (World.ownsRow_nil _ w.heap.size _ _) hg4
    have HO4 := Lib.hid hown4
    clear hown4 hg4 hat4 HK3 hal
    go_loopg [6, 31] q (fun g s6 s31 wx => ∃ (i j : Nat) (os : List Mac.Key) (A6 : Option Addr) (c6 : Nat), i + g = q ∧ os.length = j ∧ s31 = .int .i64 i ∧ s6 = .slice A6 j c6 ∧ wx.ownsRow w.heap.size 22 1 (.slice A6 j c6) j (os.map Mac.Key.val) ∧ (∀ k ∈ os, k.own wx w.heap.size) ∧ Hid (os.map (·.l) = [key] ++ (rs.take i).map (·.l)) ∧ Below w.heap.size w wx)
    case atStart => exact ⟨0, 1, [⟨A3, m, c3, key⟩], A4, c4, by omega, rfl, rfl, rfl, HO4.out, HOS4.out, Lib.hid (by simp), hb4⟩
    case round =>
      obtain ⟨i, j, os, A6, c6, hig, hj, rfl, rfl, hown, hos, hpre, hbx⟩ := hrel
      have hbx' := hbx.size
      have HO := Lib.hid hown
      have HOS := Lib.hid hos
      have HJ := Lib.hid hj
      have hjn : j ≤ 4294960000 + 2 := by
        have h := congrArg List.length hpre.out
        simp at h
        have := HL.out
        omega
      clear hown hos hj
      cases gk with
      | zero =>
        have hiq : i = q := by omega
        subst hiq
        go_wp2_with fail
        go_ret2
        have hlen := HJ.out
        subst hlen
        refine ⟨A6, c6, os, rfl, ⟨rfl, Rd.of_own HO.out, fun k hk => (HOS.out k hk).ok⟩, ?_, ?_, hbx⟩
        · rw [hpre.out, HTU.out]
          rw [if_pos (by simp [h128])]; exact HQ.out
        · rcases HO.out.2 with ⟨hv, h0⟩ | ⟨g0, cap, cur, hv, _, _, h1, _⟩
          · injection hv with _ _ h3
            omega
          · injection hv with _ _ h3
            omega
      | succ g =>
        have hi : i < q := by omega
        have hiz : (i : Int) < ((q : Nat) : Int) := by omega
        have hin : i < n := by omega
        obtain ⟨b0, off, k, hAe, hbs, hc, hmem, hk⟩ := (HR.out.below hbx).cell hin
        have hkok := (HR.out.below hbx).keys k hmem
        have HKS := Lib.hid (And.intro hkok.by8 hkok.small)
        have HCL := Lib.hid (clone_spec k.A k.n k.c k.l wr hkok.rd (by have := hkok.small; omega))
        have HSN : Hid ((rs.take (i + 1)).map (·.l) = (rs.take i).map (·.l) ++ [k.l]) := Lib.hid (by
          have := hk.out
          rw [List.take_add_one, this]
          simp)
        clear hkok hmem hk
        subst hAe
        go_wp2_with fail
        refine HCL.out.mono ?_
        rintro e w3 ⟨A3, c3, rfl, hown3, hb3⟩
        have hb3' := bel_then hbx hb3
        have HK3 : Hid (Mac.Key.own ⟨A3, k.n, c3, k.l⟩ w3 w.heap.size) := Lib.hid ⟨own_weaken' hown3 hbx', HKS.out.1, HKS.out.2⟩
        have HO3 := Lib.hid (own_below HO.out hb3)
        have HOS3 : Hid (∀ k ∈ os, k.own w3 w.heap.size) := Lib.hid fun k hk => (HOS.out k hk).below hb3
        have hb3s := hb3'.size
        clear hown3 HCL HO HOS hb3
        go_wp2_with (at_builtin; refine wpList_app _ rfl (.tmp 35) (.tmp 38) 37 rfl w (by exact hb3'.alloc hb3s _) 22 (.slice none 0 0) 1 24 Tryd.underlying37 ring_info rfl (by decide) (.slice A6 j c6) j (os.map Mac.Key.val) rfl (by exact HO3.out.alloc _) (some ⟨_, 0, none⟩) 1 1 [.slice A3 k.n c3] rfl (by exact rd_one _ _ _) (one_sl _ _ _) (by unfold maxLen; omega) (by omega) ?_; intro A4 c4 w4 hown4 hb4 hg4 hat4)
        have hal := (Below.refl w3.heap.size w3).alloc (Nat.le_refl _) (.cells #[.slice A3 k.n c3] 22)
        have HOS4 : Hid (∀ k' ∈ os ++ [⟨A3, k.n, c3, k.l⟩], k'.own w4 w.heap.size) := Lib.hid fun k' hk' => by
          rcases List.mem_append.1 hk' with h | h
          · exact ((HOS3.out k' h).below hal).app (HO3.out.alloc _) hg4
          · rw [List.mem_singleton] at h
            subst h
            exact (HK3.out.below hal).app (HO3.out.alloc _) hg4
        have HO4 := Lib.hid hown4
        clear hown4 hg4 hat4 HOS3 HO3 HK3 hal
        go_roundg g
        case measure => omega
        case rel => exact ⟨i + 1, j + 1, os ++ [⟨A3, k.n, c3, k.l⟩], A4, c4, by omega, by have := HJ.out; simp; omega, by go_num, rfl, by rw [List.map_append]; exact HO4.out, HOS4.out, Lib.hid (by rw [List.map_append, hpre.out, HSN.out, List.append_assoc]; rfl), hb4⟩
  · obtain rfl : te = 12 := by rw [HTE.out, if_neg (by simp [*])]
    have hz : ¬ (m : Int) ≤ 128 := by omega
    go_enter Tryd.func18, Tryd.ntmps18
    go_wp2_with fail
    refine HRT.out.mono ?_
    rintro e w1 ⟨rfl, hb1⟩
    clear HRT
    go_wp2_with fail
    go_loopg [6, 31] n (fun g s6 s31 wx => ∃ (i j : Nat) (os : List Mac.Key) (A6 : Option Addr) (c6 : Nat), i + g = n ∧ os.length = j ∧ s31 = .int .i64 i ∧ s6 = .slice A6 j c6 ∧ wx.ownsRow w.heap.size 22 1 (.slice A6 j c6) j (os.map Mac.Key.val) ∧ (∀ k ∈ os, k.own wx w.heap.size) ∧ Hid (os.map (·.l) = [] ++ (rs.take i).map (·.l)) ∧ Below w.heap.size w wx)
    case atStart => exact ⟨0, 0, [], none, 0, by omega, rfl, rfl, rfl, World.ownsRow_nil _ _ _ _, (fun k hk => by cases hk), Lib.hid (by simp), hb1⟩
    case round =>
      obtain ⟨i, j, os, A6, c6, hig, hj, rfl, rfl, hown, hos, hpre, hbx⟩ := hrel
      have hbx' := hbx.size
      have HO := Lib.hid hown
      have HOS := Lib.hid hos
      have HJ := Lib.hid hj
      have hjn : j ≤ 4294960000 + 2 := by
        have h := congrArg List.length hpre.out
        simp at h
        have := HL.out
        omega
      clear hown hos hj
      cases gk with
      | zero =>
        have hiq : i = n := by omega
        subst hiq
        go_wp2_with fail
        go_ret2
        have hlen := HJ.out
        subst hlen
        refine ⟨A6, c6, os, rfl, ⟨rfl, Rd.of_own HO.out, fun k hk => (HOS.out k hk).ok⟩, ?_, ?_, hbx⟩
        · rw [hpre.out, HTU.out]
          rw [if_neg (by simp [*])]; rw [List.take_of_length_le (by rw [HL.out]; exact Nat.le_refl _)]; simp
        · rcases HO.out.2 with ⟨hv, h0⟩ | ⟨g0, cap, cur, hv, _, _, h1, _⟩
          · injection hv with _ _ h3
            omega
          · injection hv with _ _ h3
            omega
      | succ g =>
        have hi : i < n := by omega
        have hiz : (i : Int) < ((n : Nat) : Int) := by omega
        have hin : i < n := by omega
        obtain ⟨b0, off, k, hAe, hbs, hc, hmem, hk⟩ := (HR.out.below hbx).cell hin
        have hkok := (HR.out.below hbx).keys k hmem
        have HKS := Lib.hid (And.intro hkok.by8 hkok.small)
        have HCL := Lib.hid (clone_spec k.A k.n k.c k.l wr hkok.rd (by have := hkok.small; omega))
        have HSN : Hid ((rs.take (i + 1)).map (·.l) = (rs.take i).map (·.l) ++ [k.l]) := Lib.hid (by
          have := hk.out
          rw [List.take_add_one, this]
          simp)
        clear hkok hmem hk
        subst hAe
        go_wp2_with fail
        refine HCL.out.mono ?_
        rintro e w3 ⟨A3, c3, rfl, hown3, hb3⟩
        have hb3' := bel_then hbx hb3
        have HK3 : Hid (Mac.Key.own ⟨A3, k.n, c3, k.l⟩ w3 w.heap.size) := Lib.hid ⟨own_weaken' hown3 hbx', HKS.out.1, HKS.out.2⟩
        have HO3 := Lib.hid (own_below HO.out hb3)
        have HOS3 : Hid (∀ k ∈ os, k.own w3 w.heap.size) := Lib.hid fun k hk => (HOS.out k hk).below hb3
        have hb3s := hb3'.size
        clear hown3 HCL HO HOS hb3
        go_wp2_with (at_builtin; refine wpList_app _ rfl (.tmp 35) (.tmp 38) 37 rfl w (by exact hb3'.alloc hb3s _) 22 (.slice none 0 0) 1 24 Tryd.underlying37 ring_info rfl (by decide) (.slice A6 j c6) j (os.map Mac.Key.val) rfl (by exact HO3.out.alloc _) (some ⟨_, 0, none⟩) 1 1 [.slice A3 k.n c3] rfl (by exact rd_one _ _ _) (one_sl _ _ _) (by unfold maxLen; omega) (by omega) ?_; intro A4 c4 w4 hown4 hb4 hg4 hat4)
        have hal := (Below.refl w3.heap.size w3).alloc (Nat.le_refl _) (.cells #[.slice A3 k.n c3] 22)
        have HOS4 : Hid (∀ k' ∈ os ++ [⟨A3, k.n, c3, k.l⟩], k'.own w4 w.heap.size) := Lib.hid fun k' hk' => by
          rcases List.mem_append.1 hk' with h | h
          · exact ((HOS3.out k' h).below hal).app (HO3.out.alloc _) hg4
          · rw [List.mem_singleton] at h
            subst h
            exact (HK3.out.below hal).app (HO3.out.alloc _) hg4
        have HO4 := Lib.hid hown4
        clear hown4 hg4 hat4 HOS3 HO3 HK3 hal
        go_roundg g
        case measure => omega
        case rel => exact ⟨i + 1, j + 1, os ++ [⟨A3, k.n, c3, k.l⟩], A4, c4, by omega, by have := HJ.out; simp; omega, by go_num, rfl, by rw [List.map_append]; exact HO4.out, HOS4.out, Lib.hid (by rw [List.map_append, hpre.out, HSN.out, List.append_assoc]; rfl), hb4⟩
  · obtain rfl : te = 12 := by rw [HTE.out, if_neg (by simp [*])]
    go_enter Tryd.func18, Tryd.ntmps18
    go_wp2_with fail
    refine HRT.out.mono ?_
    rintro e w1 ⟨rfl, hb1⟩
    clear HRT
    go_wp2_with fail
    go_loopg [6, 31] n (fun g s6 s31 wx => ∃ (i j : Nat) (os : List Mac.Key) (A6 : Option Addr) (c6 : Nat), i + g = n ∧ os.length = j ∧ s31 = .int .i64 i ∧ s6 = .slice A6 j c6 ∧ wx.ownsRow w.heap.size 22 1 (.slice A6 j c6) j (os.map Mac.Key.val) ∧ (∀ k ∈ os, k.own wx w.heap.size) ∧ Hid (os.map (·.l) = [] ++ (rs.take i).map (·.l)) ∧ Below w.heap.size w wx)
    case atStart => exact ⟨0, 0, [], none, 0, by omega, rfl, rfl, rfl, World.ownsRow_nil _ _ _ _, (fun k hk => by cases hk), Lib.hid (by simp), hb1⟩
    case round =>
      obtain ⟨i, j, os, A6, c6, hig, hj, rfl, rfl, hown, hos, hpre, hbx⟩ := hrel
      have hbx' := hbx.size
      have HO := Lib.hid hown
      have HOS := Lib.hid hos
      have HJ := Lib.hid hj
      have hjn : j ≤ 4294960000 + 2 := by
        have h := congrArg List.length hpre.out
        simp at h
        have := HL.out
        omega
      clear hown hos hj
      cases gk with
      | zero =>
        have hiq : i = n := by omega
        subst hiq
        go_wp2_with fail
        go_ret2
        have hlen := HJ.out
        subst hlen
        refine ⟨A6, c6, os, rfl, ⟨rfl, Rd.of_own HO.out, fun k hk => (HOS.out k hk).ok⟩, ?_, ?_, hbx⟩
        · rw [hpre.out, HTU.out]
          rw [if_neg (by simp [*])]; rw [List.take_of_length_le (by rw [HL.out]; exact Nat.le_refl _)]; simp
        · rcases HO.out.2 with ⟨hv, h0⟩ | ⟨g0, cap, cur, hv, _, _, h1, _⟩
          · injection hv with _ _ h3
            omega
          · injection hv with _ _ h3
            omega
      | succ g =>
        have hi : i < n := by omega
        have hiz : (i : Int) < ((n : Nat) : Int) := by omega
        have hin : i < n := by omega
        obtain ⟨b0, off, k, hAe, hbs, hc, hmem, hk⟩ := (HR.out.below hbx).cell hin
        have hkok := (HR.out.below hbx).keys k hmem
        have HKS := Lib.hid (And.intro hkok.by8 hkok.small)
        have HCL := Lib.hid (clone_spec k.A k.n k.c k.l wr hkok.rd (by have := hkok.small; omega))
        have HSN : Hid ((rs.take (i + 1)).map (·.l) = (rs.take i).map (·.l) ++ [k.l]) := Lib.hid (by
          have := hk.out
          rw [List.take_add_one, this]
          simp)
        clear hkok hmem hk
        subst hAe
        go_wp2_with fail
        refine HCL.out.mono ?_
        rintro e w3 ⟨A3, c3, rfl, hown3, hb3⟩
        have hb3' := bel_then hbx hb3
        have HK3 : Hid (Mac.Key.own ⟨A3, k.n, c3, k.l⟩ w3 w.heap.size) := Lib.hid ⟨own_weaken' hown3 hbx', HKS.out.1, HKS.out.2⟩
        have HO3 := Lib.hid (own_below HO.out hb3)
        have HOS3 : Hid (∀ k ∈ os, k.own w3 w.heap.size) := Lib.hid fun k hk => (HOS.out k hk).below hb3
        have hb3s := hb3'.size
        clear hown3 HCL HO HOS hb3
        go_wp2_with (at_builtin; refine wpList_app _ rfl (.tmp 35) (.tmp 38) 37 rfl w (by exact hb3'.alloc hb3s _) 22 (.slice none 0 0) 1 24 Tryd.underlying37 ring_info rfl (by decide) (.slice A6 j c6) j (os.map Mac.Key.val) rfl (by exact HO3.out.alloc _) (some ⟨_, 0, none⟩) 1 1 [.slice A3 k.n c3] rfl (by exact rd_one _ _ _) (one_sl _ _ _) (by unfold maxLen; omega) (by omega) ?_; intro A4 c4 w4 hown4 hb4 hg4 hat4)
        have hal := (Below.refl w3.heap.size w3).alloc (Nat.le_refl _) (.cells #[.slice A3 k.n c3] 22)
        have HOS4 : Hid (∀ k' ∈ os ++ [⟨A3, k.n, c3, k.l⟩], k'.own w4 w.heap.size) := Lib.hid fun k' hk' => by
          rcases List.mem_append.1 hk' with h | h
          · exact ((HOS3.out k' h).below hal).app (HO3.out.alloc _) hg4
          · rw [List.mem_singleton] at h
            subst h
            exact (HK3.out.below hal).app (HO3.out.alloc _) hg4
        have HO4 := Lib.hid hown4
        clear hown4 hg4 hat4 HOS3 HO3 HK3 hal
        go_roundg g
        case measure => omega
        case rel => exact ⟨i + 1, j + 1, os ++ [⟨A3, k.n, c3, k.l⟩], A4, c4, by omega, by have := HJ.out; simp; omega, by go_num, rfl, by rw [List.map_append]; exact HO4.out, HOS4.out, Lib.hid (by rw [List.map_append, hpre.out, HSN.out, List.append_assoc]; rfl), hb4⟩
end Go.Proofs.YtdnboohhplnnhaaDoor
