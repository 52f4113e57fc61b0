/- The walks of container/heap's Pop and Remove over the alarms. -/
import Derived.Test.YtdboehogkmidbaaWhHeap
namespace Go.Proofs.Ytdboehogkmidbaa
open Go.RowKit
set_option linter.unusedVariables false
set_option linter.unusedSimpArgs false
theorem pop_list {l : List Wh.Al} {n : Nat} (hn : l.length = n + 1) : (Wh.down n (Wh.sw l 0 n) 0 n).1.take n = Wh.remL l 0 := by
  unfold Wh.remL
  simp only [hn, Nat.add_sub_cancel]
  by_cases h0 : n = 0
  · subst h0
    rw [if_pos rfl]
    simp
  · rw [if_neg h0]
    congr 1
    split
    · rfl
    · unfold Wh.up
      exact (if_pos (Or.inl rfl)).symm
theorem pop_al {l : List Wh.Al} {n : Nat} (hn : l.length = n + 1) : Wh.al (Wh.down n (Wh.sw l 0 n) 0 n).1 n = Wh.al l 0 := by
  rw [Wh.down_above n _ 0 n n (by rw [Wh.sw_len]; omega) (Nat.le_refl _), Wh.al_sw (by omega) (by omega), if_pos rfl]
section
variable {w w' : World} {L : Loc} {c : Nat} {es : List Mi.E} {ck : Nat} {l : List Wh.Al} {now : Int}
set_option maxRecDepth 8000 in
set_option maxHeartbeats 4000000 in
theorem WM.hpop (h : WM w L c es ck l now) {n : Nat} (hn : l.length = n + 1) :
    Calls Try.prog 39 #[.iface 88 (.pointer (some ⟨L.gw, 0, none⟩))] w fun e w' => e = .returned (.iface 86 (.agg #[.int .i64 (Wh.al l 0).k, .int .i64 (Wh.al l 0).t])) ∧ Wgo w L (Wh.remL l 0) now w' := by
  have hs := h.sm
  have HL := h.len_wm
  have HS := h.swap_wm (i := 0) (j := n) (by omega) (by omega)
  rw [hn, show ((n + 1 : Nat) : Int) = (n : Int) + 1 by omega] at HL
  obtain ⟨gw, hgw⟩ : ∃ gw, gw = L.gw := ⟨_, rfl⟩
  rw [← hgw] at HL HS ⊢
  have ML : ∀ W : World, (method 195 88 (.pointer (some ⟨gw, 0, none⟩)) "Len").run Try.prog W = .ok (35, .pointer (some ⟨gw, 0, none⟩)) W := fun W => by kernel_rfl
  have MS : ∀ W : World, (method 195 88 (.pointer (some ⟨gw, 0, none⟩)) "Swap").run Try.prog W = .ok (64, .pointer (some ⟨gw, 0, none⟩)) W := fun W => by kernel_rfl
  have MP : ∀ W : World, (method 195 88 (.pointer (some ⟨gw, 0, none⟩)) "Pop").run Try.prog W = .ok (62, .pointer (some ⟨gw, 0, none⟩)) W := fun W => by kernel_rfl
  have hb : n ≤ 1000 := by omega
  have HL := Lib.hid HL
  have HS := Lib.hid HS
  have HG := Lib.hid hgw
  have HN := Lib.hid hn
  clear h hgw hn hs
  go_enter Try.func39, Try.ntmps39
  go_wp2_with fail
  refine HL.out.mono ?_
  rintro e w0 ⟨rfl, rfl⟩
  clear HL
  go_wp2_with fail
  refine HS.out.mono ?_
  rintro e w1 ⟨rfl, L1, c1, es1, ck1, hW1, hS1⟩
  clear HS
  have HD := hdown_spec n 0 n L1 c1 es1 ck1 (Wh.sw l 0 n) now w1 hW1 (by omega) (by rw [Wh.sw_len, HN.out]; omega) (by omega)
  rw [hS1.gw, ← HG.out] at HD
  have HD := Lib.hid HD
  have HS1 := Lib.hid hS1
  clear hW1 hS1
  go_wp2_with fail
  refine HD.out.mono ?_
  rintro e w2 ⟨rfl, L2, c2, es2, ck2, hW2, hS2⟩
  clear HD
  have HP := hW2.pop_wm (n := n) (by rw [Wh.down_len, Wh.sw_len, HN.out])
  rw [hS2.gw, HS1.out.gw, ← HG.out, pop_al HN.out, pop_list HN.out] at HP
  have HP := Lib.hid HP
  have HS2 := Lib.hid (HS1.out.trans hS2)
  clear hW2 hS2 HS1
  go_wp2_with fail
  refine HP.out.mono ?_
  rintro e w3 ⟨rfl, hW3⟩
  have HW3 := Lib.hid (Wgo.then HS2.out hW3)
  clear hW3 HP HS2
  go_wp2_with fail
  go_ret
  exact ⟨rfl, HW3.out⟩
end
theorem rem_list {l : List Wh.Al} {i n : Nat} (hn : l.length = n + 1) (hi : n ≠ i) : Wh.remL l i = (if i < (Wh.down n (Wh.sw l i n) i n).2 then (Wh.down n (Wh.sw l i n) i n).1 else Wh.up (i + 1) (Wh.down n (Wh.sw l i n) i n).1 i).take n := by
  unfold Wh.remL
  simp only [hn, Nat.add_sub_cancel]
  rw [if_neg hi]
section
variable {w w' : World} {L : Loc} {c : Nat} {es : List Mi.E} {ck : Nat} {l : List Wh.Al} {now : Int}
set_option maxRecDepth 8000 in
set_option maxHeartbeats 4000000 in
theorem WM.hrem (h : WM w L c es ck l now) {i n : Nat} (hn : l.length = n + 1) (hi : i < l.length) :
    Calls Try.prog 37 #[.iface 88 (.pointer (some ⟨L.gw, 0, none⟩)), .int .i64 i] w fun e w' => e = .returned (.iface 86 (.agg #[.int .i64 (Wh.al l i).k, .int .i64 (Wh.al l i).t])) ∧ Wgo w L (Wh.remL l i) now w' := by
  have hs := h.sm
  have HL := h.len_wm
  have HS := h.swap_wm (i := i) (j := n) (by omega) (by omega)
  have HQ := h.pop_wm hn
  rw [hn, show ((n + 1 : Nat) : Int) = (n : Int) + 1 by omega] at HL
  obtain ⟨gw, hgw⟩ : ∃ gw, gw = L.gw := ⟨_, rfl⟩
  rw [← hgw] at HL HS HQ ⊢
  have ML : ∀ W : World, (method 195 88 (.pointer (some ⟨gw, 0, none⟩)) "Len").run Try.prog W = .ok (35, .pointer (some ⟨gw, 0, none⟩)) W := fun W => by kernel_rfl
  have MS : ∀ W : World, (method 195 88 (.pointer (some ⟨gw, 0, none⟩)) "Swap").run Try.prog W = .ok (64, .pointer (some ⟨gw, 0, none⟩)) W := fun W => by kernel_rfl
  have MP : ∀ W : World, (method 195 88 (.pointer (some ⟨gw, 0, none⟩)) "Pop").run Try.prog W = .ok (62, .pointer (some ⟨gw, 0, none⟩)) W := fun W => by kernel_rfl
  have hb : n ≤ 1000 := by omega
  have HL := Lib.hid HL
  have HS := Lib.hid HS
  have HQ := Lib.hid HQ
  have HG := Lib.hid hgw
  have HN := Lib.hid hn
  have hin : i ≤ n := by omega
  have hi2 : i ≤ 256 := by omega
  clear h hgw hn hi
  go_enter Try.func37, Try.ntmps37
  go_wp2_with fail
  refine HL.out.mono ?_
  rintro e w0 ⟨rfl, rfl⟩
  clear HL
  by_cases hni : n = i
  · subst hni
    have HR : Hid (Wh.remL l n = l.take n) := Lib.hid (by unfold Wh.remL; simp only [HN.out, Nat.add_sub_cancel]; rw [if_pos trivial])
    clear HS
    go_wp2_with fail
    refine HQ.out.mono ?_
    rintro e w3 ⟨rfl, hW3⟩
    have HW3 := Lib.hid hW3
    clear hW3 HQ
    go_wp2_with fail
    go_ret
    exact ⟨rfl, by rw [HR.out]; exact HW3.out⟩
  · have hnz : (n : Int) ≠ (i : Int) := by omega
    have HR := Lib.hid (rem_list HN.out hni)
    clear hni HQ
    go_wp2_with fail
    refine HS.out.mono ?_
    rintro e w1 ⟨rfl, L1, c1, es1, ck1, hW1, hS1⟩
    clear HS
    have HD := hdown_spec n i n L1 c1 es1 ck1 (Wh.sw l i n) now w1 hW1 (by omega) (by rw [Wh.sw_len, HN.out]; omega) (by omega)
    rw [hS1.gw, ← HG.out] at HD
    have hDl : (Wh.down n (Wh.sw l i n) i n).1.length = n + 1 := by rw [Wh.down_len, Wh.sw_len, HN.out]
    have hDa : Wh.al (Wh.down n (Wh.sw l i n) i n).1 n = Wh.al l i := by
      have := HN.out
      rw [Wh.down_above n _ i n n (by rw [Wh.sw_len]; omega) (Nat.le_refl _), Wh.al_sw (by omega) (by omega), if_pos rfl]
    obtain ⟨D, hD⟩ : ∃ D, D = Wh.down n (Wh.sw l i n) i n := ⟨_, rfl⟩
    rw [← hD] at HD hDl hDa HR
    have HD := Lib.hid HD
    have HS1 := Lib.hid hS1
    have HDl := Lib.hid hDl
    have HDa := Lib.hid hDa
    clear hW1 hS1 hDl hDa hD
    go_wp2_with fail
    refine HD.out.mono ?_
    rintro e w2 ⟨rfl, L2, c2, es2, ck2, hW2, hS2⟩
    clear HD
    by_cases hc : i < D.2
    · rw [show decide (i < D.2) = true from decide_eq_true hc]
      have HP := hW2.pop_wm HDl.out
      rw [hS2.gw, HS1.out.gw, ← HG.out, HDa.out] at HP
      rw [if_pos hc] at HR
      have HP := Lib.hid HP
      have HS2 := Lib.hid (HS1.out.trans hS2)
      clear hW2 hS2 HS1 hc
      go_wp2_with fail
      refine HP.out.mono ?_
      rintro e w3 ⟨rfl, hW3⟩
      have HW3 := Lib.hid (Wgo.then HS2.out hW3)
      clear hW3 HP HS2
      go_wp2_with fail
      go_ret
      exact ⟨rfl, by rw [HR.out]; exact HW3.out⟩
    · rw [show decide (i < D.2) = false from decide_eq_false hc]
      rw [if_neg hc] at HR
      have HU := hup_spec (i + 1) i L2 c2 es2 ck2 D.1 now w2 hW2 (by rw [HDl.out]; omega) (by omega)
      rw [hS2.gw, HS1.out.gw, ← HG.out] at HU
      have HU := Lib.hid HU
      have HS2 := Lib.hid (HS1.out.trans hS2)
      clear hW2 hS2 HS1 hc
      go_wp2_with fail
      refine HU.out.mono ?_
      rintro e w3 ⟨rfl, L3, c3, es3, ck3, hW3, hS3⟩
      have HP := hW3.pop_wm (n := n) (by rw [Wh.up_len, HDl.out])
      have hUa : Wh.al (Wh.up (i + 1) D.1 i) n = Wh.al l i := by
        rw [Wh.up_above (n := n) _ _ i n (by rw [HDl.out]; omega) (by omega) (Nat.le_refl _), HDa.out]
      rw [hS3.gw, HS2.out.gw, ← HG.out, hUa] at HP
      have HP := Lib.hid HP
      have HS3 := Lib.hid (HS2.out.trans hS3)
      clear hW3 hS3 HS2 HU hUa
      go_wp2_with fail
      refine HP.out.mono ?_
      rintro e w4 ⟨rfl, hW4⟩
      have HW4 := Lib.hid (Wgo.then HS3.out hW4)
      clear hW4 HP HS3
      go_wp2_with fail
      go_ret
      exact ⟨rfl, by rw [HR.out]; exact HW4.out⟩
end
end Go.Proofs.Ytdboehogkmidbaa
