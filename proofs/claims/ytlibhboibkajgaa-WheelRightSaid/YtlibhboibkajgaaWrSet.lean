/- casematelaw11's reference: Set. -/
import Derived.Test.YtlibhboibkajgaaWrWo
namespace Go.Proofs.Ytlibhboibkajgaa
open Go.RowKit
set_option linter.unusedVariables false
set_option linter.unusedSimpArgs false
set_option maxRecDepth 8000 in
set_option maxHeartbeats 8000000 in
theorem rset_spec (A : Option Addr) (n c : Nat) (now k t : Int) (l : List Wh.Al) (w : World) (hO : w.ownsRow 0 71 2 (.slice A n c) n (acells l)) (hd : (l.map (·.k)).Nodup) (hn : n ≤ 256) :
    Calls Try.prog 15 #[.agg #[.slice A n c, .int .i64 now], .int .i64 k, .int .i64 t] w (RRet2 w (Wh.rset l now k t).2 now (Wh.rset l now k t).1) := by
  have hR := Rd.of_own hO
  obtain ⟨hc, hcc⟩ := own_c hO
  have HO0 := Lib.hid hO
  clear hO
  obtain ⟨V, hV⟩ : ∃ V, V = (w.alloc (.cells #[.slice A n c, .int .i64 now] 44)).alloc (.cells #[.slice none 0 0, .int .i64 0] 44) := ⟨_, rfl⟩
  have aV : Below w.heap.size w V := by rw [hV]; exact bel_a (bel_a (Below.refl _ _) _) _
  have N1 : BlkV V w.heap.size 44 [.slice A n c, .int .i64 now] := by rw [hV]; exact (BlkV.new _ _ _).alloc _
  have M1 : BlkV V (w.heap.size + 1) 44 [.slice none 0 0, .int .i64 0] := by rw [hV]; exact BlkV.new_at _ _ _ (by simp)
  have hl := hR.alen
  have c0 : V.cell? ⟨w.heap.size, 0, none⟩ = some (.slice A n c) := N1.cell rfl
  have c1 : V.cell? ⟨w.heap.size, 1, none⟩ = some (.int .i64 now) := N1.cell rfl
  have HF := Lib.hid (rfind_spec A n c now k l V (hR.below aV) hd (by omega))
  have HV := Lib.hid hV
  have HB := Lib.hid aV
  have HL := Lib.hid hl
  have HR := Lib.hid (hR.below aV)
  have HD := Lib.hid hd
  clear hV aV hl hR hd
  by_cases hb : ¬ (0 ≤ k ∧ k ≤ 2147483647 ∧ 0 ≤ t ∧ t ≤ 1099511627776)
  · have HP : Hid (Wh.rset l now k t = (1, l)) := Lib.hid (by unfold Wh.rset; rw [if_pos hb])
    have h5 : k < 0 ∨ (¬ k < 0 ∧ 2147483647 < k) ∨ (¬ k < 0 ∧ ¬ 2147483647 < k ∧ t < 0) ∨ (¬ k < 0 ∧ ¬ 2147483647 < k ∧ ¬ t < 0 ∧ 1099511627776 < t) := by omega
    clear hb HF
    rcases h5 with p1 | ⟨p1, p2⟩ | ⟨p1, p2, p3⟩ | ⟨p1, p2, p3, p4⟩
    all_goals
      go_enter Try.func15, Try.ntmps15
      go_upto_region 1 with (fail)
      rw [← HV.out]
      go_wp2_with (first | (refine wpList_stB 44 _ _ (by with_reducible rfl) rfl (by rfl) [.slice A n c, .int .i64 now] (by rfl) (by exact M1) (by rfl) (by kernel_rfl) (by rfl) ?_; intro w6 N6 O6) | fail)
      have r0 : w6.cell? ⟨w.heap.size + 1, 0, none⟩ = some (.slice A n c) := N6.cell rfl
      have r1 : w6.cell? ⟨w.heap.size + 1, 1, none⟩ = some (.int .i64 now) := N6.cell rfl
      have hB6 := O6.bel (by omega) HB.out
      exact bodyPost_ret (v := .tuple #[.agg #[.slice A n c, .int .i64 now], .int .i64 1]) (by simp [results, Try.results15, go_sem, r0, r1]) rfl (by
        rw [HP.out]
        refine ⟨_, rfl, ⟨A, c, by rw [HL.out], by rw [HL.out]; exact own_below HO0.out hB6⟩, hB6⟩)
  · obtain ⟨h0, h1, h2, h3⟩ := Decidable.not_not.1 hb
    by_cases hn2 : t ≤ now
    · have HP : Hid (Wh.rset l now k t = (14, l)) := Lib.hid (by unfold Wh.rset; rw [if_neg hb, if_pos hn2])
      clear hb HF
      go_enter Try.func15, Try.ntmps15
      go_upto_region 1 with (fail)
      rw [← HV.out]
      go_wp2_with (first | (refine wpList_stB 44 _ _ (by with_reducible rfl) rfl (by rfl) [.slice A n c, .int .i64 now] (by rfl) (by exact M1) (by rfl) (by kernel_rfl) (by rfl) ?_; intro w6 N6 O6) | fail)
      have r0 : w6.cell? ⟨w.heap.size + 1, 0, none⟩ = some (.slice A n c) := N6.cell rfl
      have r1 : w6.cell? ⟨w.heap.size + 1, 1, none⟩ = some (.int .i64 now) := N6.cell rfl
      have hB6 := O6.bel (by omega) HB.out
      exact bodyPost_ret (v := .tuple #[.agg #[.slice A n c, .int .i64 now], .int .i64 14]) (by simp [results, Try.results15, go_sem, r0, r1]) rfl (by
        rw [HP.out]
        refine ⟨_, rfl, ⟨A, c, by rw [HL.out], by rw [HL.out]; exact own_below HO0.out hB6⟩, hB6⟩)
    · go_enter Try.func15, Try.ntmps15
      go_upto_region 1 with (fail)
      rw [← HV.out]
      go_wp2_with fail
      refine HF.out.mono ?_
      rintro e w1 ⟨rfl, hb1⟩
      have N1 := N1.below hb1
      have M1 := M1.below hb1
      have HR1 := Lib.hid (HR.out.below hb1)
      have HB1 := Lib.hid (bel_then HB.out hb1)
      have c0 : w1.cell? ⟨w.heap.size, 0, none⟩ = some (.slice A n c) := N1.cell rfl
      have c1 : w1.cell? ⟨w.heap.size, 1, none⟩ = some (.int .i64 now) := N1.cell rfl
      clear hb1 HF HB HR
      unfold Wh.at_
      cases hp : Wh.place l k with
      | none =>
        by_cases hf : l.length = 256
        · have HP : Hid (Wh.rset l now k t = (8, l)) := Lib.hid (by unfold Wh.rset; rw [if_neg hb, if_neg (by omega), hp, if_pos ⟨rfl, hf⟩])
          have hnf : (256 : Int) ≤ (n : Int) := by have := HL.out; omega
          simp only
          clear hp hb
          go_wp2_with (first | (refine wpList_stB 44 _ _ (by with_reducible rfl) rfl (by rfl) [.slice A n c, .int .i64 now] (by rfl) (by exact M1) (by rfl) (by kernel_rfl) (by rfl) ?_; intro w6 N6 O6) | fail)
          have r0 : w6.cell? ⟨w.heap.size + 1, 0, none⟩ = some (.slice A n c) := N6.cell rfl
          have r1 : w6.cell? ⟨w.heap.size + 1, 1, none⟩ = some (.int .i64 now) := N6.cell rfl
          have hB6 := O6.bel (by omega) HB1.out
          exact bodyPost_ret (v := .tuple #[.agg #[.slice A n c, .int .i64 now], .int .i64 8]) (by simp [results, Try.results15, go_sem, r0, r1]) rfl (by
            rw [HP.out]
            refine ⟨_, rfl, ⟨A, c, by rw [HL.out], by rw [HL.out]; exact own_below HO0.out hB6⟩, hB6⟩)
        · have HP : Hid (Wh.rset l now k t = (0, l ++ [⟨k, t⟩])) := Lib.hid (by unfold Wh.rset Wh.rput; rw [if_neg hb, if_neg (by omega), hp, if_neg (fun q => hf q.2)])
          have hnf : (n : Int) < 256 := by have := HL.out; omega
          simp only
          clear hp hb
          have HC0 : Hid ((l).length = n) := HL
          have hn0 : n ≤ 256 := by have := HC0.out; first | omega | (rw [← this]; have := HL.out; rw [Wh.cut_len (by omega)]; omega)
          have hzg : w.heap.size < w1.heap.size := N1.lt
          have hzg1 : w.heap.size + 1 < w1.heap.size := M1.lt
          have HSz := Lib.hid (And.intro hzg hzg1)
          go_wp2_with (first
            | (at_builtin; refine wpList_app0 _ rfl (.tmp 46) (.tmp 48) 42 rfl w1 (by exact Below.refl _ _) 71 _ 2 16 (by kernel_rfl) infoR rfl (by decide) rfl A n c (acells (l)) rfl (by exact HR1.out) (one_als _) (by unfold maxLen; omega) (by omega) ?_; intro A3 c3 w3 hown3 hb3 hg3 hat3; have N3 := (N1).below hb3; have M3 := (M1).below hb3; have HO3 := Lib.hid (own_below hown3 (bel_a (Below.refl w3.heap.size w3) (.cells #[.int .i64 k, .int .i64 t] 71))); have HB3 := Lib.hid (bel_a hb3 (.cells #[.int .i64 k, .int .i64 t] 71)); have N3a := N3.alloc (.cells #[.int .i64 k, .int .i64 t] 71); have M3a := M3.alloc (.cells #[.int .i64 k, .int .i64 t] 71); clear hown3 hg3 hat3 N3 M3)
            | (at_builtin; refine wpList_app _ rfl (.tmp 49) (.tmp 53) 42 rfl w1 (by exact HB3.out) 71 _ 2 16 (by kernel_rfl) infoR rfl (by decide) (.slice A3 n c3) n (acells (l)) rfl (by exact HO3.out) (some ⟨w3.heap.size, 0, none⟩) 1 1 (⟨k, t⟩ : Wh.Al).cells rfl (by exact rd_al w3 ⟨k, t⟩ _) (one_al _) (by unfold maxLen; omega) (by omega) ?_; intro A4 c4 w4 hown4 hb4 hg4 hat4; have N4 := (N1).below hb4; have M4 := (M1).below hb4; have HO4 := Lib.hid hown4; have HB4 := Lib.hid hb4; clear hown4 hg4 hat4 N3a M3a HO3 HB3 hb4)
            | (refine wpList_stF 42 _ _ 0 (.slice A4 (n + 1) c4) rfl (by with_reducible rfl) rfl (by rfl) (by rfl) N4 (by simp) (by kernel_rfl) rfl ?_; intro w5 N5 O5; have M5 := M4.only O5 (by omega); have a0 : w5.cell? ⟨w.heap.size, 0, none⟩ = some (.slice A4 (n + 1) c4) := N5.cell rfl; have a1 : w5.cell? ⟨w.heap.size, 1, none⟩ = some (.int .i64 now) := N5.cell rfl; have HO5 := Lib.hid (own_only HO4.out O5 HSz.out.1); have HB5 := Lib.hid (O5.bel (Nat.le_refl _) (bel_then HB1.out HB4.out)); clear N4 M4 HO4 HB4 N5 O5)
            | (refine wpList_stB 44 _ _ (by with_reducible rfl) rfl (by rfl) [.slice A4 (n + 1) c4, .int .i64 now] (by rfl) (by exact M5) (by rfl) (by kernel_rfl) (by rfl) ?_; intro w6 N6 O6)
            | fail)
          have r0 : w6.cell? ⟨w.heap.size + 1, 0, none⟩ = some (.slice A4 (n + 1) c4) := N6.cell rfl
          have r1 : w6.cell? ⟨w.heap.size + 1, 1, none⟩ = some (.int .i64 now) := N6.cell rfl
          have hB6 := O6.bel (by omega) HB5.out
          have hO6 := own_only HO5.out O6 HSz.out.2
          exact bodyPost_ret (v := .tuple #[.agg #[.slice A4 (n + 1) c4, .int .i64 now], .int .i64 0]) (by simp [results, Try.results15, go_sem, r0, r1]) rfl (by
            rw [HP.out]
            have hq : (l ++ [(⟨k, t⟩ : Wh.Al)]).length = n + 1 := by rw [List.length_append, HC0.out]; rfl
            refine ⟨_, rfl, ⟨A4, c4, by rw [hq], ?_⟩, hB6⟩
            rw [hq, acells_app]
            have := own_weak hO6 (Nat.zero_le _)
            simpa [acells] using this)
      | some i =>
        obtain ⟨hi, _⟩ := Wh.place_some hp
        have HP : Hid (Wh.rset l now k t = (0, Wh.cut l i ++ [⟨k, t⟩])) := Lib.hid (by unfold Wh.rset Wh.rput; rw [if_neg hb, if_neg (by omega), hp, if_neg (fun q => by cases q.1)])
        have HW := Lib.hid (rwo_spec A n c now i l w1 HR1.out (by rw [← HL.out]; exact hi) hc hcc (by omega))
        have HCL := Lib.hid (Wh.cut_len hi)
        simp only
        clear hp hb hi
        go_wp2_with fail
        refine HW.out.mono ?_
        rintro e w2 ⟨A2, c2, rfl, hO2, hb2⟩
        have M2 := M1.below hb2
        have N2 := N1.below hb2
        obtain ⟨cl, hcl⟩ : ∃ cl, cl = (Wh.cut l i).length := ⟨_, rfl⟩
        rw [← hcl] at hO2 ⊢
        have hz1 : w.heap.size < w1.heap.size := N1.lt
        have HO2 := Lib.hid hO2
        have HB2 := Lib.hid (bel_then HB1.out hb2)
        have HNC : Hid ((Wh.cut l i).length = cl) := Lib.hid hcl.symm
        clear hO2 hb2 HW hcl
        clear N1 M1
        go_upto_region 10 with (first | (refine wpList_stB 44 _ _ (by with_reducible rfl) rfl (by rfl) [.slice A2 cl c2, .int .i64 now] (by rfl) (by exact N2) (by rfl) (by kernel_rfl) (by rfl) ?_; intro w3 N3 O3) | fail)
        have M3 := M2.only O3 (by omega)
        have HR3 := Lib.hid (Rd.of_own (own_only HO2.out O3 hz1))
        have HB3' := Lib.hid (O3.bel (Nat.le_refl _) HB2.out)
        have hcl0 : cl ≤ 256 := by have := HNC.out; have := HCL.out; have := HL.out; omega
        have b0 : w3.cell? ⟨w.heap.size, 0, none⟩ = some (.slice A2 cl c2) := N3.cell rfl
        obtain ⟨wz, hwz⟩ : ∃ wz, wz = w3 := ⟨_, rfl⟩
        have NZ := N3
        have MZ := M3
        have HRZ := HR3
        have HBZ := HB3'
        rw [← hwz] at NZ MZ HRZ HBZ b0 ⊢
        clear N3 M3 HR3 HB3' O3 N2 M2 HO2 HB2 hwz
        have HC0 : Hid ((Wh.cut l i).length = cl) := HNC
        have hn0 : cl ≤ 256 := by have := HC0.out; first | omega | (rw [← this]; have := HL.out; rw [Wh.cut_len (by omega)]; omega)
        have hzg : w.heap.size < wz.heap.size := NZ.lt
        have hzg1 : w.heap.size + 1 < wz.heap.size := MZ.lt
        have HSz := Lib.hid (And.intro hzg hzg1)
        go_wp2_with (first
          | (at_builtin; refine wpList_app0 _ rfl (.tmp 46) (.tmp 48) 42 rfl wz (by exact Below.refl _ _) 71 _ 2 16 (by kernel_rfl) infoR rfl (by decide) rfl A2 cl c2 (acells (Wh.cut l i)) rfl (by exact HRZ.out) (one_als _) (by unfold maxLen; omega) (by omega) ?_; intro A3 c3 w3 hown3 hb3 hg3 hat3; have N3 := (NZ).below hb3; have M3 := (MZ).below hb3; have HO3 := Lib.hid (own_below hown3 (bel_a (Below.refl w3.heap.size w3) (.cells #[.int .i64 k, .int .i64 t] 71))); have HB3 := Lib.hid (bel_a hb3 (.cells #[.int .i64 k, .int .i64 t] 71)); have N3a := N3.alloc (.cells #[.int .i64 k, .int .i64 t] 71); have M3a := M3.alloc (.cells #[.int .i64 k, .int .i64 t] 71); clear hown3 hg3 hat3 N3 M3)
          | (at_builtin; refine wpList_app _ rfl (.tmp 49) (.tmp 53) 42 rfl wz (by exact HB3.out) 71 _ 2 16 (by kernel_rfl) infoR rfl (by decide) (.slice A3 cl c3) cl (acells (Wh.cut l i)) rfl (by exact HO3.out) (some ⟨w3.heap.size, 0, none⟩) 1 1 (⟨k, t⟩ : Wh.Al).cells rfl (by exact rd_al w3 ⟨k, t⟩ _) (one_al _) (by unfold maxLen; omega) (by omega) ?_; intro A4 c4 w4 hown4 hb4 hg4 hat4; have N4 := (NZ).below hb4; have M4 := (MZ).below hb4; have HO4 := Lib.hid hown4; have HB4 := Lib.hid hb4; clear hown4 hg4 hat4 N3a M3a HO3 HB3 hb4)
          | (refine wpList_stF 42 _ _ 0 (.slice A4 (cl + 1) c4) rfl (by with_reducible rfl) rfl (by rfl) (by rfl) N4 (by simp) (by kernel_rfl) rfl ?_; intro w5 N5 O5; have M5 := M4.only O5 (by omega); have a0 : w5.cell? ⟨w.heap.size, 0, none⟩ = some (.slice A4 (cl + 1) c4) := N5.cell rfl; have a1 : w5.cell? ⟨w.heap.size, 1, none⟩ = some (.int .i64 now) := N5.cell rfl; have HO5 := Lib.hid (own_only HO4.out O5 HSz.out.1); have HB5 := Lib.hid (O5.bel (Nat.le_refl _) (bel_then HBZ.out HB4.out)); clear N4 M4 HO4 HB4 N5 O5)
          | (refine wpList_stB 44 _ _ (by with_reducible rfl) rfl (by rfl) [.slice A4 (cl + 1) c4, .int .i64 now] (by rfl) (by exact M5) (by rfl) (by kernel_rfl) (by rfl) ?_; intro w6 N6 O6)
          | fail)
        have r0 : w6.cell? ⟨w.heap.size + 1, 0, none⟩ = some (.slice A4 (cl + 1) c4) := N6.cell rfl
        have r1 : w6.cell? ⟨w.heap.size + 1, 1, none⟩ = some (.int .i64 now) := N6.cell rfl
        have hB6 := O6.bel (by omega) HB5.out
        have hO6 := own_only HO5.out O6 HSz.out.2
        exact bodyPost_ret (v := .tuple #[.agg #[.slice A4 (cl + 1) c4, .int .i64 now], .int .i64 0]) (by simp [results, Try.results15, go_sem, r0, r1]) rfl (by
          rw [HP.out]
          have hq : (Wh.cut l i ++ [(⟨k, t⟩ : Wh.Al)]).length = cl + 1 := by rw [List.length_append, HC0.out]; rfl
          refine ⟨_, rfl, ⟨A4, c4, by rw [hq], ?_⟩, hB6⟩
          rw [hq, acells_app]
          have := own_weak hO6 (Nat.zero_le _)
          simpa [acells] using this)
end Go.Proofs.Ytlibhboibkajgaa
