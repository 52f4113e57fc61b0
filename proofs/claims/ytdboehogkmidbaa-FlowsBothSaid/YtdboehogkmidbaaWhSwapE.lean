/- The walk of the alarms' Swap of a place with itself. -/
import Derived.Test.YtdboehogkmidbaaWhSwap
namespace Go.Proofs.Ytdboehogkmidbaa
open Go.RowKit
set_option linter.unusedVariables false
set_option linter.unusedSimpArgs false
set_option maxRecDepth 8000 in
set_option maxHeartbeats 8000000 in
theorem aswap_eq (g gr gm : Nat) (n c : Nat) (i : Nat) (l : List Wh.Al) (rest : List Value) (es : List Mi.E) (ck : Nat) (w : World) (h0 : w.cell? ⟨g, 0, none⟩ = some (.slice (some ⟨gr, 0, none⟩) n c)) (h1 : w.cell? ⟨g, 1, none⟩ = some (.map (some gm)))
    (hg : g < w.heap.size) (hgr : g ≠ gr) (hgm : g ≠ gm) (hrm : gr ≠ gm) (hR : ARow w gr l rest) (hM : MapE w gm es ck) (hl : l.length = n) (hi : i < n) (hn : n ≤ 1000) (hk : ∀ p, p < n → ∃ v, Mi.get es (Wh.al l p).k = some v) :
    Calls Try.prog 64 #[.pointer (some ⟨g, 0, none⟩), .int .i64 i, .int .i64 i] w (SwR g gr gm l rest es ck i i w) := by
  have hiz : (i : Int) < (n : Int) := by omega
  obtain ⟨x0, x1⟩ := hR.cells (p := i) (by omega)
  have fx0 := hR.blk.unfrozen (i * 2)
  have fx1 := hR.blk.unfrozen (i * 2 + 1)
  have hlt := hR.blk.lt
  obtain ⟨V, hV⟩ : ∃ V, V = ((w.setCells gr (i * 2) (Wh.al l i).cells).setCells gr (i * 2) (Wh.al l i).cells) := ⟨_, rfl⟩
  obtain ⟨R1, O1⟩ := hR.store (p := i) (by omega) (Wh.al l i)
  obtain ⟨R2, O2⟩ := R1.store (p := i) (by rw [List.length_set]; omega) (Wh.al l i)
  rw [← hV] at R2 O2
  have RV : ARow V gr (Wh.sw l i i) rest := R2
  have MV : MapE V gm es ck := ⟨by rw [O2.block gm (Ne.symm hrm), O1.block gm (Ne.symm hrm)]; exact hM.blk, hM.ok⟩
  have V0 : V.cell? ⟨g, 0, none⟩ = some (.slice (some ⟨gr, 0, none⟩) n c) := by rw [O2.cell hgr, O1.cell hgr]; exact h0
  have V1 : V.cell? ⟨g, 1, none⟩ = some (.map (some gm)) := by rw [O2.cell hgr, O1.cell hgr]; exact h1
  have KV : Keeps (fun k => k = gr ∨ k = gm) w V := (Keeps.of_only O1 _ (Or.inl rfl)).trans (Keeps.of_only O2 _ (Or.inl rfl)) (fun k hk => Or.inl hk)
  have sl : (Wh.sw l i i).length = n := by rw [← hl]; simp [Wh.sw]
  obtain ⟨u0, u1⟩ := RV.cells (p := i) (by omega)
  have ai : Wh.al (Wh.sw l i i) i = Wh.al l i := sw_at_j (by omega) (by omega)
  rw [ai] at u0
  have HV0 := Lib.hid V0
  have HV1 := Lib.hid V1
  have Hu := Lib.hid u0
  have HRV := Lib.hid RV
  have HMV := Lib.hid MV
  have HKV := Lib.hid KV
  have HVV := Lib.hid hV
  clear R1 O1 R2 O2 RV MV V0 V1 KV u0 u1 ai hV sl
  have HR := Lib.hid hR
  have HM := Lib.hid hM
  have HK := Lib.hid hk
  have HL := Lib.hid hl
  clear hR hM hk hl
  go_enter Try.func64, Try.ntmps64
  go_wp2_with fail
  go_region
  rename_i K hK0
  refine hK0 _ _ ?_
  clear hK0 K
  rw [show (((w.setCell ⟨gr, i * 2, none⟩ (.int .i64 (Wh.al l i).k)).setCell ⟨gr, i * 2 + 1, none⟩ (.int .i64 (Wh.al l i).t)).setCell ⟨gr, i * 2, none⟩ (.int .i64 (Wh.al l i).k)).setCell ⟨gr, i * 2 + 1, none⟩ (.int .i64 (Wh.al l i).t) = V from HVV.out.symm]
  clear h0 h1 hg x0 x1 fx0 fx1 hlt HR HM HL HVV
  have V0 := HV0.out
  have V1 := HV1.out
  have u0 := Hu.out
  clear HV0 HV1 Hu
  obtain ⟨vi, gi⟩ := HK.out i hi
  obtain ⟨vj, gj⟩ := HK.out i hi
  refine wp_region_held_drew (S := fun w' => (w'.cell? ⟨g, 0, none⟩ = some (.slice (some ⟨gr, 0, none⟩) n c) ∧ w'.cell? ⟨g, 1, none⟩ = some (.map (some gm)) ∧ w'.cell? ⟨gr, i * 2, none⟩ = some (.int .i64 (Wh.al l i).k))) (by kernel_rfl) ⟨V0, V1, u0⟩ (fun hHeld => ?_)
  clear V0 V1 u0
  refine wpAnyH_takeD (i := 0) (some 32) (v := ?_) rfl rfl (by kernel_rfl) (by kernel_rfl) (by kernel_rfl) (fun _ _ _ h => h) (Or.inl ⟨by rfl, ?_⟩) (by assumption) ?_
  rotate_left
  · (intro w hSw; (try dsimp only at hSw); go_simp; try with_reducible rfl)
  try simp only [Act.put, List.setIfInBounds_toArray, List.set_cons_zero, List.set_cons_succ]
  refine wpAnyH_takeD (i := 1) (some 33) (v := ?_) rfl rfl (by kernel_rfl) (by kernel_rfl) (by kernel_rfl) (fun _ _ _ h => h) (Or.inl ⟨by rfl, ?_⟩) (by assumption) ?_
  rotate_left
  · (intro w hSw; (try dsimp only at hSw); go_simp; try with_reducible rfl)
  try simp only [Act.put, List.setIfInBounds_toArray, List.set_cons_zero, List.set_cons_succ]
  refine wpAnyH_takeD (i := 2) (some 34) (v := ?_) rfl rfl (by kernel_rfl) (by kernel_rfl) (by kernel_rfl) (fun _ _ _ h => h) (Or.inl ⟨by rfl, ?_⟩) (by assumption) ?_
  rotate_left
  · (intro w hSw; (try dsimp only at hSw); go_simp; try with_reducible rfl)
  try simp only [Act.put, List.setIfInBounds_toArray, List.set_cons_zero, List.set_cons_succ]
  refine wpAnyH_takeD (i := 3) (some 35) (v := ?_) rfl rfl (by kernel_rfl) (by kernel_rfl) (by kernel_rfl) (fun _ _ _ h => h) (Or.inl ⟨by rfl, ?_⟩) (by assumption) ?_
  rotate_left
  · (intro w hSw; (try dsimp only at hSw); go_simp; try with_reducible rfl)
  try simp only [Act.put, List.setIfInBounds_toArray, List.set_cons_zero, List.set_cons_succ]
  refine wpAnyH_takeD (i := 4) (some 36) (v := ?_) rfl rfl (by kernel_rfl) (by kernel_rfl) (by kernel_rfl) (fun _ _ _ h => h) (Or.inl ⟨by rfl, ?_⟩) (by assumption) ?_
  rotate_left
  · (intro w hSw; (try dsimp only at hSw); go_simp; try with_reducible rfl)
  try simp only [Act.put, List.setIfInBounds_toArray, List.set_cons_zero, List.set_cons_succ]
  refine wpAnyH_takeD (i := 5) (some 37) (v := ?_) rfl rfl (by kernel_rfl) (by kernel_rfl) (by kernel_rfl) (fun _ _ _ h => h) (Or.inl ⟨by rfl, ?_⟩) (by assumption) ?_
  rotate_left
  · (intro w hSw; (try dsimp only at hSw); go_simp; try with_reducible rfl)
  try simp only [Act.put, List.setIfInBounds_toArray, List.set_cons_zero, List.set_cons_succ]
  refine wpAnyH_takeD (i := 6) (some 38) (v := ?_) rfl rfl (by kernel_rfl) (by kernel_rfl) (by kernel_rfl) (fun _ _ _ h => h) (Or.inl ⟨by rfl, ?_⟩) (by assumption) ?_
  rotate_left
  · (intro w hSw; (try dsimp only at hSw); go_simp; try with_reducible rfl)
  try simp only [Act.put, List.setIfInBounds_toArray, List.set_cons_zero, List.set_cons_succ]
  refine wpAnyH_takeD (i := 7) (some 39) (v := ?_) rfl rfl (by kernel_rfl) (by kernel_rfl) (by kernel_rfl) (fun _ _ _ h => h) (Or.inl ⟨by rfl, ?_⟩) (by assumption) ?_
  rotate_left
  · (intro w hSw; (try dsimp only at hSw); go_simp; try with_reducible rfl)
  try simp only [Act.put, List.setIfInBounds_toArray, List.set_cons_zero, List.set_cons_succ]
  refine wpAnyH_takeD (i := 8) (some 40) (v := ?_) rfl rfl (by kernel_rfl) (by kernel_rfl) (by kernel_rfl) (fun _ _ _ h => h) (Or.inl ⟨by rfl, ?_⟩) (by assumption) ?_
  rotate_left
  · (intro w hSw; (try dsimp only at hSw); go_simp; try with_reducible rfl)
  try simp only [Act.put, List.setIfInBounds_toArray, List.set_cons_zero, List.set_cons_succ]
  refine wpAnyH_takeD (i := 9) (some 41) (v := ?_) rfl rfl (by kernel_rfl) (by kernel_rfl) (by kernel_rfl) (fun _ _ _ h => h) (Or.inl ⟨by rfl, ?_⟩) (by assumption) ?_
  rotate_left
  · (intro w hSw; (try dsimp only at hSw); go_simp; try with_reducible rfl)
  try simp only [Act.put, List.setIfInBounds_toArray, List.set_cons_zero, List.set_cons_succ]
  refine wpAnyH_takeD (i := 10) (some 42) (v := ?_) rfl rfl (by kernel_rfl) (by kernel_rfl) (by kernel_rfl) (fun _ _ _ h => h) (Or.inl ⟨by rfl, ?_⟩) (by assumption) ?_
  rotate_left
  · (intro w hSw; (try dsimp only at hSw); go_simp; try with_reducible rfl)
  try simp only [Act.put, List.setIfInBounds_toArray, List.set_cons_zero, List.set_cons_succ]
  refine wpAnyH_takeD (i := 11) (some 43) (v := ?_) rfl rfl (by kernel_rfl) (by kernel_rfl) (by kernel_rfl) (fun _ _ _ h => h) (Or.inl ⟨by rfl, ?_⟩) (by assumption) ?_
  rotate_left
  · (intro w hSw; (try dsimp only at hSw); go_simp; try with_reducible rfl)
  try simp only [Act.put, List.setIfInBounds_toArray, List.set_cons_zero, List.set_cons_succ]
  refine wpAnyH_takeD (i := 12) (some 44) (v := ?_) rfl rfl (by kernel_rfl) (by kernel_rfl) (by kernel_rfl) (fun _ _ _ h => h) (Or.inl ⟨by rfl, ?_⟩) (by assumption) ?_
  rotate_left
  · (intro w hSw; (try dsimp only at hSw); go_simp; try with_reducible rfl)
  try simp only [Act.put, List.setIfInBounds_toArray, List.set_cons_zero, List.set_cons_succ]
  refine wpAnyH_takeD (i := 13) (some 45) (v := ?_) rfl rfl (by kernel_rfl) (by kernel_rfl) (by kernel_rfl) (fun _ _ _ h => h) (Or.inl ⟨by rfl, ?_⟩) (by assumption) ?_
  rotate_left
  · (intro w hSw; (try dsimp only at hSw); go_simp; try with_reducible rfl)
  try simp only [Act.put, List.setIfInBounds_toArray, List.set_cons_zero, List.set_cons_succ]
  refine wpAnyH_takeD (i := 14) (some 46) (v := ?_) rfl rfl (by kernel_rfl) (by kernel_rfl) (by kernel_rfl) (fun _ _ _ h => h) (Or.inl ⟨by rfl, ?_⟩) (by assumption) ?_
  rotate_left
  · (intro w hSw; (try dsimp only at hSw); go_simp; try with_reducible rfl)
  try simp only [Act.put, List.setIfInBounds_toArray, List.set_cons_zero, List.set_cons_succ]
  refine wpAnyH_takeD (i := 15) (some 47) (v := ?_) rfl rfl (by kernel_rfl) (by kernel_rfl) (by kernel_rfl) (fun _ _ _ h => h) (Or.inl ⟨by rfl, ?_⟩) (by assumption) ?_
  rotate_left
  · (intro w hSw; (try dsimp only at hSw); go_simp; try with_reducible rfl)
  try simp only [Act.put, List.setIfInBounds_toArray, List.set_cons_zero, List.set_cons_succ]
  refine wpAnyH_takeD (i := 16) (some 48) (v := ?_) rfl rfl (by kernel_rfl) (by kernel_rfl) (by kernel_rfl) (fun _ _ _ h => h) (Or.inl ⟨by rfl, ?_⟩) (by assumption) ?_
  rotate_left
  · (intro w hSw; (try dsimp only at hSw); go_simp; try with_reducible rfl)
  try simp only [Act.put, List.setIfInBounds_toArray, List.set_cons_zero, List.set_cons_succ]
  refine wpAnyH_takeD (i := 17) (some 49) (v := ?_) rfl rfl (by kernel_rfl) (by kernel_rfl) (by kernel_rfl) (fun _ _ _ h => h) (Or.inl ⟨by rfl, ?_⟩) (by assumption) ?_
  rotate_left
  · (intro w hSw; (try dsimp only at hSw); go_simp; try with_reducible rfl)
  try simp only [Act.put, List.setIfInBounds_toArray, List.set_cons_zero, List.set_cons_succ]
  refine wpAnyH_takeD (i := 18) (some 50) (v := ?_) rfl rfl (by kernel_rfl) (by kernel_rfl) (by kernel_rfl) (fun _ _ _ h => h) (Or.inl ⟨by rfl, ?_⟩) (by assumption) ?_
  rotate_left
  · (intro w hSw; (try dsimp only at hSw); go_simp; try with_reducible rfl)
  try simp only [Act.put, List.setIfInBounds_toArray, List.set_cons_zero, List.set_cons_succ]
  refine wpAnyH_takeD (i := 19) (some 51) (v := ?_) rfl rfl (by kernel_rfl) (by kernel_rfl) (by kernel_rfl) (fun _ _ _ h => h) (Or.inl ⟨by rfl, ?_⟩) (by assumption) ?_
  rotate_left
  · (intro w hSw; (try dsimp only at hSw); go_simp; try with_reducible rfl)
  try simp only [Act.put, List.setIfInBounds_toArray, List.set_cons_zero, List.set_cons_succ]
  refine wpAnyH_takeD (i := 20) (some 52) (v := ?_) rfl rfl (by kernel_rfl) (by kernel_rfl) (by kernel_rfl) (fun _ _ _ h => h) (Or.inl ⟨by rfl, ?_⟩) (by assumption) ?_
  rotate_left
  · (intro w hSw; (try dsimp only at hSw); go_simp; try with_reducible rfl)
  try simp only [Act.put, List.setIfInBounds_toArray, List.set_cons_zero, List.set_cons_succ]
  refine wpAnyH_takeD (i := 21) (some 53) (v := ?_) rfl rfl (by kernel_rfl) (by kernel_rfl) (by kernel_rfl) (fun _ _ _ h => h) (Or.inl ⟨by rfl, ?_⟩) (by assumption) ?_
  rotate_left
  · (intro w hSw; (try dsimp only at hSw); go_simp; try with_reducible rfl)
  try simp only [Act.put, List.setIfInBounds_toArray, List.set_cons_zero, List.set_cons_succ]
  refine wpAnyH_takeD (i := 22) (some 54) (v := ?_) rfl rfl (by kernel_rfl) (by kernel_rfl) (by kernel_rfl) (fun _ _ _ h => h) (Or.inl ⟨by rfl, ?_⟩) (by assumption) ?_
  rotate_left
  · (intro w hSw; (try dsimp only at hSw); go_simp; try with_reducible rfl)
  try simp only [Act.put, List.setIfInBounds_toArray, List.set_cons_zero, List.set_cons_succ]
  refine wpAnyH_takeD (i := 23) (some 55) (v := ?_) rfl rfl (by kernel_rfl) (by kernel_rfl) (by kernel_rfl) (fun _ _ _ h => h) (Or.inl ⟨by rfl, ?_⟩) (by assumption) ?_
  rotate_left
  · (intro w hSw; (try dsimp only at hSw); go_simp; try with_reducible rfl)
  try simp only [Act.put, List.setIfInBounds_toArray, List.set_cons_zero, List.set_cons_succ]
  refine wpAnyH_takeD (i := 24) (some 56) (v := ?_) rfl rfl (by kernel_rfl) (by kernel_rfl) (by kernel_rfl) (fun _ _ _ h => h) (Or.inl ⟨by rfl, ?_⟩) (by assumption) ?_
  rotate_left
  · (intro w hSw; (try dsimp only at hSw); go_simp; try with_reducible rfl)
  try simp only [Act.put, List.setIfInBounds_toArray, List.set_cons_zero, List.set_cons_succ]
  refine wpAnyH_takeD (i := 25) (some 57) (v := ?_) rfl rfl (by kernel_rfl) (by kernel_rfl) (by kernel_rfl) (fun _ _ _ h => h) (Or.inl ⟨by rfl, ?_⟩) (by assumption) ?_
  rotate_left
  · (intro w hSw; (try dsimp only at hSw); go_simp; try with_reducible rfl)
  try simp only [Act.put, List.setIfInBounds_toArray, List.set_cons_zero, List.set_cons_succ]
  refine wpAnyH_ready (rs := [26]) (by kernel_rfl) (by simp) ?_
  refine AllReadyH.cons (o := _) rfl (fun K hK => ?_) AllReadyH.nil
  refine wp_mapEntry (k := 3) (e := 3) (g := gm) (es := es) (c := ck) (q := (Wh.al l i).k) (v := vj) (w := V.drew.drew) _ _ rfl (by kernel_rfl) (by kernel_rfl) rfl rfl (show MapE V.drew.drew gm es ck from ⟨HMV.out.blk, HMV.out.ok⟩) gj ?_
  intro wa Ma Oa
  refine hK.out _ _ ⟨(Oa.cell hgm).trans hHeld.1, (Oa.cell hgm).trans hHeld.2.1, (Oa.cell hrm).trans hHeld.2.2⟩ (fun hHeld => ?_)
  clear hK K
  try simp only [Act.put, List.setIfInBounds_toArray, List.set_cons_zero, List.set_cons_succ]
  refine wpAnyH_takeD (i := 27) (some 59) (v := ?_) rfl rfl (by kernel_rfl) (by kernel_rfl) (by kernel_rfl) (fun _ _ _ h => h) (Or.inl ⟨by rfl, ?_⟩) (by assumption) ?_
  rotate_left
  · (intro w hSw; (try dsimp only at hSw); go_simp; try with_reducible rfl)
  try simp only [Act.put, List.setIfInBounds_toArray, List.set_cons_zero, List.set_cons_succ]
  refine wpAnyH_ready (rs := [28]) (by kernel_rfl) (by simp) ?_
  refine AllReadyH.cons (o := _) rfl (fun K hK => ?_) AllReadyH.nil
  refine wp_entryStore (g := gm) (es := es) (c := ck) (q := (Wh.al l i).k) (v := vj) (y := i) _ _ _ rfl rfl rfl rfl rfl Ma gj ?_
  intro wb Mb Ob
  have gi2 : Mi.get (Mi.setv es (Wh.al l i).k i) (Wh.al l i).k = some (if (Wh.al l i).k = (Wh.al l i).k then (i : Int) else vi) := by
    rw [Mi.get_setv]
    split
    · rename_i h
      rw [gj]; rfl
    · exact gi
  refine hK.out _ _ ⟨(Ob.cell hgm).trans hHeld.1, (Ob.cell hgm).trans hHeld.2.1, (Ob.cell hrm).trans hHeld.2.2⟩ (fun hHeld => ?_)
  clear hK K
  try simp only [Act.put, List.setIfInBounds_toArray, List.set_cons_zero, List.set_cons_succ]
  refine wpAnyH_ready (rs := [29]) (by kernel_rfl) (by simp) ?_
  refine AllReadyH.cons (o := _) rfl (fun K hK => ?_) AllReadyH.nil
  refine wp_mapEntry (k := 3) (e := 3) (g := gm) (c := ck) (q := (Wh.al l i).k) _ _ rfl (by kernel_rfl) (by kernel_rfl) rfl rfl Mb gi2 ?_
  intro wc Mc Oc
  refine hK.out _ _ ⟨(Oc.cell hgm).trans hHeld.1, (Oc.cell hgm).trans hHeld.2.1, (Oc.cell hrm).trans hHeld.2.2⟩ (fun hHeld => ?_)
  clear hK K
  try simp only [Act.put, List.setIfInBounds_toArray, List.set_cons_zero, List.set_cons_succ]
  refine wpAnyH_takeD (i := 30) (some 61) (v := ?_) rfl rfl (by kernel_rfl) (by kernel_rfl) (by kernel_rfl) (fun _ _ _ h => h) (Or.inl ⟨by rfl, ?_⟩) (by assumption) ?_
  rotate_left
  · (intro w hSw; (try dsimp only at hSw); go_simp; try with_reducible rfl)
  try simp only [Act.put, List.setIfInBounds_toArray, List.set_cons_zero, List.set_cons_succ]
  refine wpAnyH_ready (rs := [31]) (by kernel_rfl) (by simp) ?_
  refine AllReadyH.cons (o := _) rfl (fun K hK => ?_) AllReadyH.nil
  refine wp_entryStore (g := gm) (c := ck) (q := (Wh.al l i).k) (y := i) _ _ _ rfl rfl rfl rfl rfl Mc gi2 ?_
  intro wd Md Od
  refine hK.out _ _ ⟨(Od.cell hgm).trans hHeld.1, (Od.cell hgm).trans hHeld.2.1, (Od.cell hrm).trans hHeld.2.2⟩ (fun hHeld => ?_)
  clear hK K
  try simp only [Act.put, List.setIfInBounds_toArray, List.set_cons_zero, List.set_cons_succ]
  refine wpAnyH_done (by kernel_rfl) ?_ _
  have KD : Keeps (fun k => k = gr ∨ k = gm) w wd := by
    refine HKV.out.trans ?_ (fun k hk => Or.inl hk)
    have k1 : Keeps (fun k => k = gr ∨ k = gm) V V.drew.drew := Keeps.of_below (bel_d (bel_d (Below.refl _ V))) _
    exact (((k1.trans (Keeps.of_only Oa _ (Or.inr rfl)) (fun k hk => Or.inl hk)).trans (Keeps.of_only Ob _ (Or.inr rfl)) (fun k hk => Or.inl hk)).trans (Keeps.of_only Oc _ (Or.inr rfl)) (fun k hk => Or.inl hk)).trans (Keeps.of_only Od _ (Or.inr rfl)) (fun k hk => Or.inl hk)
  have RD : ARow wd gr (Wh.sw l i i) rest := ⟨((((show BlkV V.drew.drew gr _ _ from HRV.out.blk).only Oa hrm).only Ob hrm).only Oc hrm).only Od hrm⟩
  clear Ma Mb Mc Oa Ob Oc Od hHeld
  go_end0
  exact ⟨rfl, RD, Md, KD⟩
end Go.Proofs.Ytdboehogkmidbaa
