/- The walk of RulesBehind. -/
import Derived.Test.YtdocojhjknhjnaaRulesBehindL
import Derived.Deep.DeepCutAuto
namespace Go.Proofs.Ytdocojhjknhjnaa
open Go.RowKit
set_option linter.unusedVariables false
set_option maxRecDepth 8000 in
set_option maxHeartbeats 16000000 in
theorem rules_behind (A : Option Addr) (n c : Nat) (l : List Rules.Rule) (r : Rules.Rule) (fr tz : Int) (t : Rules.Tup) (w : World) (hrd : RdRow w A n l) (hRd : Rd w 10 A n (rcells l)) (hr : ∀ r ∈ l, r.wf) (hrr : r.wf) (ht : t.wf) :
    Calls Try.prog 4 #[.slice A n c, .agg #[.int .i64 r.fr, .int .i64 r.to, .int .i64 r.proto, .int .u32 r.src, .int .u32 r.dst, .int .i64 r.sb, .int .i64 r.db, .int .i64 r.lo, .int .i64 r.hi, .int .i64 r.act], .int .i64 fr, .int .i64 tz, .agg #[.int .i64 t.proto, .int .u32 t.src, .int .i64 t.sport, .int .u32 t.dst, .int .i64 t.dport]] w fun e w' => e = .returned (.bool true) ∧ Below w.heap.size w w' := by
  obtain ⟨W, hW⟩ : ∃ W, W = (w.alloc (.cells #[.int .i64 r.fr, .int .i64 r.to, .int .i64 r.proto, .int .u32 r.src, .int .u32 r.dst, .int .i64 r.sb, .int .i64 r.db, .int .i64 r.lo, .int .i64 r.hi, .int .i64 r.act] 32)).alloc (.cells #[.int .i64 t.proto, .int .u32 t.src, .int .i64 t.sport, .int .u32 t.dst, .int .i64 t.dport] 25) := ⟨_, rfl⟩
  have hbW : Below w.heap.size w W := by rw [hW]; exact ((Below.refl _ _).alloc (Nat.le_refl _) _).alloc (by simp) _
  have Br : RCells W w.heap.size r.cells := by rw [hW]; exact (RCells.new w r.cells 32).below ((Below.refl _ _).alloc (Nat.le_refl _) _)
  have Bt : RCells W (w.heap.size + 1) t.cells := by
    rw [hW]
    have := RCells.new (w.alloc (.cells #[.int .i64 r.fr, .int .i64 r.to, .int .i64 r.proto, .int .u32 r.src, .int .u32 r.dst, .int .i64 r.sb, .int .i64 r.db, .int .i64 r.lo, .int .i64 r.hi, .int .i64 r.act] 32)) t.cells 25
    have e : (w.alloc (.cells #[.int .i64 r.fr, .int .i64 r.to, .int .i64 r.proto, .int .u32 r.src, .int .u32 r.dst, .int .i64 r.sb, .int .i64 r.db, .int .i64 r.lo, .int .i64 r.hi, .int .i64 r.act] 32)).heap.size = w.heap.size + 1 := by simp
    rw [e] at this
    exact this
  have hl := hrd.1
  by_cases h60 : 60 < n
  · exact rules_behind_long A n c l r fr tz t w hrd hRd hr hrr ht h60
  · have h1 : ¬ (60 : Int) < (n : Int) := by omega
    have hd : decide ((60 : Int) < (n : Int)) = false := by simp; omega
    go_enter Try.func4, Try.ntmps4
    go_wp2_with fail
    rw [← hW]
    refine (rules_awake _).mono ?_
    rintro e w1 ⟨rfl, hb1⟩
    have hbT := bel_then hbW hb1
    have KF : Hid (∀ w' : World, Below w1.heap.size w1 w' → Below w1.heap.size w1 w' ∧ w'.cell? ⟨w.heap.size, 0, none⟩ = some (.int .i64 r.fr) ∧ w'.cell? ⟨w.heap.size, 1, none⟩ = some (.int .i64 r.to) ∧ w'.cell? ⟨w.heap.size, 2, none⟩ = some (.int .i64 r.proto) ∧ w'.cell? ⟨w.heap.size, 3, none⟩ = some (.int .u32 r.src) ∧ w'.cell? ⟨w.heap.size, 4, none⟩ = some (.int .u32 r.dst) ∧ w'.cell? ⟨w.heap.size, 5, none⟩ = some (.int .i64 r.sb) ∧ w'.cell? ⟨w.heap.size, 6, none⟩ = some (.int .i64 r.db) ∧ w'.cell? ⟨w.heap.size, 7, none⟩ = some (.int .i64 r.lo) ∧ w'.cell? ⟨w.heap.size, 8, none⟩ = some (.int .i64 r.hi) ∧ w'.cell? ⟨w.heap.size, 9, none⟩ = some (.int .i64 r.act) ∧ w'.cell? ⟨w.heap.size + 1, 0, none⟩ = some (.int .i64 t.proto) ∧ w'.cell? ⟨w.heap.size + 1, 1, none⟩ = some (.int .u32 t.src) ∧ w'.cell? ⟨w.heap.size + 1, 2, none⟩ = some (.int .i64 t.sport) ∧ w'.cell? ⟨w.heap.size + 1, 3, none⟩ = some (.int .u32 t.dst) ∧ w'.cell? ⟨w.heap.size + 1, 4, none⟩ = some (.int .i64 t.dport)) := Lib.hid fun w' hb => by
      obtain ⟨f0, f1, f2, f3, f4, f5, f6, f7, f8, f9⟩ := ((Br.below hb1).below hb).ten
      obtain ⟨g0, g1, g2, g3, g4⟩ := ((Bt.below hb1).below hb).five
      exact ⟨hb, f0, f1, f2, f3, f4, f5, f6, f7, f8, f9, g0, g1, g2, g3, g4⟩
    have hR1 := hRd.below hbT
    have HR := Lib.hid hr
    clear hW hr Br Bt
    obtain ⟨q, hq⟩ : ∃ q, q = Rules.rightB (l ++ [r]) := ⟨_, rfl⟩
    have HQ := Lib.hid hq
    clear hq
    go_upto_region 3 with fail
    go_cut [32] (fun s32 wx => s32 = .bool (!q) ∧ Below w1.heap.size w1 wx)
    case first =>
      go_region_held3 (fun w' => Below w1.heap.size w1 w' ∧ w'.cell? ⟨w.heap.size, 0, none⟩ = some (.int .i64 r.fr) ∧ w'.cell? ⟨w.heap.size, 1, none⟩ = some (.int .i64 r.to) ∧ w'.cell? ⟨w.heap.size, 2, none⟩ = some (.int .i64 r.proto) ∧ w'.cell? ⟨w.heap.size, 3, none⟩ = some (.int .u32 r.src) ∧ w'.cell? ⟨w.heap.size, 4, none⟩ = some (.int .u32 r.dst) ∧ w'.cell? ⟨w.heap.size, 5, none⟩ = some (.int .i64 r.sb) ∧ w'.cell? ⟨w.heap.size, 6, none⟩ = some (.int .i64 r.db) ∧ w'.cell? ⟨w.heap.size, 7, none⟩ = some (.int .i64 r.lo) ∧ w'.cell? ⟨w.heap.size, 8, none⟩ = some (.int .i64 r.hi) ∧ w'.cell? ⟨w.heap.size, 9, none⟩ = some (.int .i64 r.act) ∧ w'.cell? ⟨w.heap.size + 1, 0, none⟩ = some (.int .i64 t.proto) ∧ w'.cell? ⟨w.heap.size + 1, 1, none⟩ = some (.int .u32 t.src) ∧ w'.cell? ⟨w.heap.size + 1, 2, none⟩ = some (.int .i64 t.sport) ∧ w'.cell? ⟨w.heap.size + 1, 3, none⟩ = some (.int .u32 t.dst) ∧ w'.cell? ⟨w.heap.size + 1, 4, none⟩ = some (.int .i64 t.dport)) ((first | exact KF.out _ hbn | exact KF.out _ (bel_alloc hbn _) | exact KF.out _ (bel_drew (bel_alloc hbn _)) | exact KF.out _ (bel_alloc (Below.refl w1.heap.size w1) _) | exact KF.out _ (bel_drew (bel_alloc (Below.refl w1.heap.size w1) _)) | exact KF.out _ (bel_alloc (bel_drew (bel_alloc (Below.refl w1.heap.size w1) _)) _) | exact KF.out _ (bel_drew (bel_alloc (bel_drew (bel_alloc (Below.refl w1.heap.size w1) _)) _)) | exact KF.out _ (bel_alloc (bel_alloc (Below.refl w1.heap.size w1) _) _) | exact KF.out _ (bel_drew (bel_alloc (bel_alloc (Below.refl w1.heap.size w1) _) _)) | exact KF.out _ (below_drewN (Below.refl w1.heap.size w1) _))) (first | (refine step_app _ (by rfl) (.tmp 24) (.tmp 25) 22 (by rfl) w1 (by first | exact hbn | exact (bel_alloc hbn _) | exact (bel_drew (bel_alloc hbn _)) | exact (bel_alloc (Below.refl w1.heap.size w1) _) | exact (bel_drew (bel_alloc (Below.refl w1.heap.size w1) _)) | exact (bel_alloc (bel_drew (bel_alloc (Below.refl w1.heap.size w1) _)) _) | exact (bel_drew (bel_alloc (bel_drew (bel_alloc (Below.refl w1.heap.size w1) _)) _)) | exact (bel_alloc (bel_alloc (Below.refl w1.heap.size w1) _) _) | exact (bel_drew (bel_alloc (bel_alloc (Below.refl w1.heap.size w1) _) _)) | exact (below_drewN (Below.refl w1.heap.size w1) _)) 32 _ 10 72 Try.underlying22 info_rule rfl (by decide) (.slice (some ⟨_, 0, none⟩) 0 0) 0 [] (by rfl) (by repeat (first | exact own_lit0 _ w1 _ _ _ (by simp) (by simp) | apply World.ownsRow.drew | apply World.ownsRow.alloc)) A n c (rcells l) (by rfl) (by repeat (first | exact hR1 | apply Rd.drew | apply Rd.alloc)) (one_rules l) (by unfold maxLen; omega) (by omega) ?_; intro A4 c4 w4 hown4 hbn hg4; rw [Nat.zero_add, List.nil_append] at hown4; rw [Nat.zero_add]) | (refine step_app _ (by rfl) (.tmp 26) (.tmp 28) 22 (by rfl) w1 (by first | exact hbn | exact (bel_alloc hbn _) | exact (bel_drew (bel_alloc hbn _)) | exact (bel_alloc (Below.refl w1.heap.size w1) _) | exact (bel_drew (bel_alloc (Below.refl w1.heap.size w1) _)) | exact (bel_alloc (bel_drew (bel_alloc (Below.refl w1.heap.size w1) _)) _) | exact (bel_drew (bel_alloc (bel_drew (bel_alloc (Below.refl w1.heap.size w1) _)) _)) | exact (bel_alloc (bel_alloc (Below.refl w1.heap.size w1) _) _) | exact (bel_drew (bel_alloc (bel_alloc (Below.refl w1.heap.size w1) _) _)) | exact (below_drewN (Below.refl w1.heap.size w1) _)) 32 _ 10 72 Try.underlying22 info_rule rfl (by decide) (.slice A4 n c4) n (rcells l) (by rfl) (by repeat (first | exact hown4 | apply World.ownsRow.drew | apply World.ownsRow.alloc)) (some ⟨_, 0, none⟩) 1 1 r.cells (by rfl) (by repeat (first | exact rd_rule _ r _ _ (by simp) | exact Rd.grown (by repeat (first | exact rd_rule _ r _ _ (by simp) | apply Rd.drew | apply Rd.alloc)) hg4 (by simp) | apply Rd.drew | apply Rd.alloc)) (one_rule r) (by unfold maxLen; omega) (by omega) ?_; intro A5 c5 w5 hown5 hbn hg5; rw [rcells_snoc] at hown5) | (go_at_call 13; refine (rulesRight_spec A5 (n + 1) c5 (l ++ [r]) _ (by first | exact RdRow.of_own hown5 (by simp; omega) (by omega) | exact RdRow.of_own hown5.drew (by simp; omega) (by omega) | exact RdRow.of_own hown5.drew.drew (by simp; omega) (by omega))).mono ?_; rw [← HQ.out]; rintro e w6 ⟨rfl, hb6⟩; have hbo := hbn; have hbn := bel_then hbo hb6))
      all_goals (go_wp2_with fail; go_meet; exact ⟨rfl, hbn⟩)
    case rest =>
    obtain ⟨rfl, hbc⟩ := hcut
    have hbC := bel_then hbT hbc
    cases hqq : q
    · subst hqq
      clear KF hR1 hrd
      go_wp2
      go_ret
      exact ⟨rfl, hbC⟩
    · have hrt := HQ.out.symm.trans hqq
      subst hqq
      have hwf := HR.out
      have HWF : Hid ((∀ x ∈ l ++ [r], x.wf) ∧ ∀ x ∈ r :: l, x.wf) := by
        refine Lib.hid ⟨fun x hx => ?_, fun x hx => ?_⟩
        · rcases List.mem_append.1 hx with h | h
          · exact hwf x h
          · rw [List.mem_singleton.1 h]; exact hrr
        · rcases List.mem_cons.1 hx with h | h
          · rw [h]; exact hrr
          · exact hwf x h
      obtain ⟨v1, v2, v3, v4, v5, v6, v7⟩ := @Rules.behind l r fr tz t hrt (by omega)
      obtain ⟨kk, hkk⟩ : ∃ x, x = Rules.askAt (l ++ [r]) fr tz t := ⟨_, rfl⟩
      obtain ⟨bb, hbb⟩ : ∃ x, x = Rules.askAct (l ++ [r]) fr tz t := ⟨_, rfl⟩
      obtain ⟨jj, hjj⟩ : ∃ x, x = Rules.askAt (r :: l) fr tz t := ⟨_, rfl⟩
      obtain ⟨cc, hcc⟩ : ∃ x, x = Rules.askAct (r :: l) fr tz t := ⟨_, rfl⟩
      have HV := Lib.hid (And.intro hbb (And.intro hkk (And.intro hcc (And.intro hjj trivial))))
      rw [← hkk] at v1
      rw [← hbb] at v2
      rw [← hjj] at v3
      rw [← hcc] at v4
      clear hkk hbb hjj hcc
      have rc := hrd.below hbC
      have hask := ask_spec A n c l fr tz t wc rc hwf ht
      have hfit := fun W => fits_spec r fr tz t W hrr ht
      generalize Rules.askAt l fr tz t = at_ at hask v1 v2 v3 v4 v5 v6 v7
      generalize Rules.askAct l fr tz t = aa at hask v1 v2 v3 v4 v5 v6 v7
      generalize Rules.fitsB r fr tz t = ff at hfit v1 v2 v3 v4
      have HVV := Lib.hid (And.intro v1 (And.intro v2 (And.intro v3 (And.intro v4 (And.intro v5 (And.intro v6 v7))))))
      clear v1 v2 v3 v4 v5 v6 v7 hrt
      obtain ⟨_, a0, a1, a2, a3, a4, a5, a6, a7, a8, a9, b0, b1, b2, b3, b4⟩ := KF.out wc hbc
      go_wp2_with fail
      refine hask.mono ?_
      rintro e w3 ⟨rfl, hb3⟩
      have hbD := bel_then hbC hb3
      have hbc3 := bel_then hbc hb3
      have KF3 : Hid (∀ w' : World, Below w3.heap.size w3 w' → Below w3.heap.size w3 w' ∧ w'.cell? ⟨w.heap.size, 0, none⟩ = some (.int .i64 r.fr) ∧ w'.cell? ⟨w.heap.size, 1, none⟩ = some (.int .i64 r.to) ∧ w'.cell? ⟨w.heap.size, 2, none⟩ = some (.int .i64 r.proto) ∧ w'.cell? ⟨w.heap.size, 3, none⟩ = some (.int .u32 r.src) ∧ w'.cell? ⟨w.heap.size, 4, none⟩ = some (.int .u32 r.dst) ∧ w'.cell? ⟨w.heap.size, 5, none⟩ = some (.int .i64 r.sb) ∧ w'.cell? ⟨w.heap.size, 6, none⟩ = some (.int .i64 r.db) ∧ w'.cell? ⟨w.heap.size, 7, none⟩ = some (.int .i64 r.lo) ∧ w'.cell? ⟨w.heap.size, 8, none⟩ = some (.int .i64 r.hi) ∧ w'.cell? ⟨w.heap.size, 9, none⟩ = some (.int .i64 r.act) ∧ w'.cell? ⟨w.heap.size + 1, 0, none⟩ = some (.int .i64 t.proto) ∧ w'.cell? ⟨w.heap.size + 1, 1, none⟩ = some (.int .u32 t.src) ∧ w'.cell? ⟨w.heap.size + 1, 2, none⟩ = some (.int .i64 t.sport) ∧ w'.cell? ⟨w.heap.size + 1, 3, none⟩ = some (.int .u32 t.dst) ∧ w'.cell? ⟨w.heap.size + 1, 4, none⟩ = some (.int .i64 t.dport)) := Lib.hid fun w' hb => ⟨hb, (KF.out w' (bel_then hbc3 hb)).2⟩
      have hR2 := hR1.below hbc3
      clear hask a0 a1 a2 a3 a4 a5 a6 a7 a8 a9 b0 b1 b2 b3 b4
      go_upto_region 6 with fail
      go_cut [13, 14] (fun s13 s14 wx => s13 = .int .i64 bb ∧ s14 = .int .i64 kk ∧ Below w3.heap.size w3 wx)
      case first =>
        go_region_held3 (fun w' => Below w3.heap.size w3 w' ∧ w'.cell? ⟨w.heap.size, 0, none⟩ = some (.int .i64 r.fr) ∧ w'.cell? ⟨w.heap.size, 1, none⟩ = some (.int .i64 r.to) ∧ w'.cell? ⟨w.heap.size, 2, none⟩ = some (.int .i64 r.proto) ∧ w'.cell? ⟨w.heap.size, 3, none⟩ = some (.int .u32 r.src) ∧ w'.cell? ⟨w.heap.size, 4, none⟩ = some (.int .u32 r.dst) ∧ w'.cell? ⟨w.heap.size, 5, none⟩ = some (.int .i64 r.sb) ∧ w'.cell? ⟨w.heap.size, 6, none⟩ = some (.int .i64 r.db) ∧ w'.cell? ⟨w.heap.size, 7, none⟩ = some (.int .i64 r.lo) ∧ w'.cell? ⟨w.heap.size, 8, none⟩ = some (.int .i64 r.hi) ∧ w'.cell? ⟨w.heap.size, 9, none⟩ = some (.int .i64 r.act) ∧ w'.cell? ⟨w.heap.size + 1, 0, none⟩ = some (.int .i64 t.proto) ∧ w'.cell? ⟨w.heap.size + 1, 1, none⟩ = some (.int .u32 t.src) ∧ w'.cell? ⟨w.heap.size + 1, 2, none⟩ = some (.int .i64 t.sport) ∧ w'.cell? ⟨w.heap.size + 1, 3, none⟩ = some (.int .u32 t.dst) ∧ w'.cell? ⟨w.heap.size + 1, 4, none⟩ = some (.int .i64 t.dport)) ((first | exact KF3.out _ hbn | exact KF3.out _ (bel_alloc hbn _) | exact KF3.out _ (bel_drew (bel_alloc hbn _)) | exact KF3.out _ (bel_alloc (Below.refl w3.heap.size w3) _) | exact KF3.out _ (bel_drew (bel_alloc (Below.refl w3.heap.size w3) _)) | exact KF3.out _ (bel_alloc (bel_drew (bel_alloc (Below.refl w3.heap.size w3) _)) _) | exact KF3.out _ (bel_drew (bel_alloc (bel_drew (bel_alloc (Below.refl w3.heap.size w3) _)) _)) | exact KF3.out _ (bel_alloc (bel_alloc (Below.refl w3.heap.size w3) _) _) | exact KF3.out _ (bel_drew (bel_alloc (bel_alloc (Below.refl w3.heap.size w3) _) _)) | exact KF3.out _ (below_drewN (Below.refl w3.heap.size w3) _))) (first | (refine step_app _ (by rfl) (.tmp 42) (.tmp 43) 22 (by rfl) w3 (by first | exact hbn | exact (bel_alloc hbn _) | exact (bel_drew (bel_alloc hbn _)) | exact (bel_alloc (Below.refl w3.heap.size w3) _) | exact (bel_drew (bel_alloc (Below.refl w3.heap.size w3) _)) | exact (bel_alloc (bel_drew (bel_alloc (Below.refl w3.heap.size w3) _)) _) | exact (bel_drew (bel_alloc (bel_drew (bel_alloc (Below.refl w3.heap.size w3) _)) _)) | exact (bel_alloc (bel_alloc (Below.refl w3.heap.size w3) _) _) | exact (bel_drew (bel_alloc (bel_alloc (Below.refl w3.heap.size w3) _) _)) | exact (below_drewN (Below.refl w3.heap.size w3) _)) 32 _ 10 72 Try.underlying22 info_rule rfl (by decide) (.slice (some ⟨_, 0, none⟩) 0 0) 0 [] (by rfl) (by repeat (first | exact own_lit0 _ w3 _ _ _ (by simp) (by simp) | apply World.ownsRow.drew | apply World.ownsRow.alloc)) A n c (rcells l) (by rfl) (by repeat (first | exact hR2 | apply Rd.drew | apply Rd.alloc)) (one_rules l) (by unfold maxLen; omega) (by omega) ?_; intro A4 c4 w4 hown4 hbn hg4; rw [Nat.zero_add, List.nil_append] at hown4; rw [Nat.zero_add]) | (refine step_app _ (by rfl) (.tmp 44) (.tmp 46) 22 (by rfl) w3 (by first | exact hbn | exact (bel_alloc hbn _) | exact (bel_drew (bel_alloc hbn _)) | exact (bel_alloc (Below.refl w3.heap.size w3) _) | exact (bel_drew (bel_alloc (Below.refl w3.heap.size w3) _)) | exact (bel_alloc (bel_drew (bel_alloc (Below.refl w3.heap.size w3) _)) _) | exact (bel_drew (bel_alloc (bel_drew (bel_alloc (Below.refl w3.heap.size w3) _)) _)) | exact (bel_alloc (bel_alloc (Below.refl w3.heap.size w3) _) _) | exact (bel_drew (bel_alloc (bel_alloc (Below.refl w3.heap.size w3) _) _)) | exact (below_drewN (Below.refl w3.heap.size w3) _)) 32 _ 10 72 Try.underlying22 info_rule rfl (by decide) (.slice A4 n c4) n (rcells l) (by rfl) (by repeat (first | exact hown4 | apply World.ownsRow.drew | apply World.ownsRow.alloc)) (some ⟨_, 0, none⟩) 1 1 r.cells (by rfl) (by repeat (first | exact rd_rule _ r _ _ (by simp) | exact Rd.grown (by repeat (first | exact rd_rule _ r _ _ (by simp) | apply Rd.drew | apply Rd.alloc)) hg4 (by simp) | apply Rd.drew | apply Rd.alloc)) (one_rule r) (by unfold maxLen; omega) (by omega) ?_; intro A5 c5 w5 hown5 hbn hg5; rw [rcells_snoc] at hown5) | (go_at_call 12; refine (ask_spec A5 (n + 1) c5 (l ++ [r]) fr tz t _ (by first | exact RdRow.of_own hown5 (by simp; omega) (by omega) | exact RdRow.of_own hown5.drew (by simp; omega) (by omega) | exact RdRow.of_own hown5.drew.drew (by simp; omega) (by omega)) HWF.out.1 ht).mono ?_; rw [← HV.out.1, ← HV.out.2.1]; rintro e w6 ⟨rfl, hb6⟩; have hbo := hbn; have hbn := bel_then hbo hb6))
        all_goals (go_wp2_with fail; go_meet; exact ⟨rfl, rfl, hbn⟩)
      case rest =>
      obtain ⟨rfl, rfl, hbc2⟩ := hcut
      have hbE := bel_then hbD hbc2
      have hbcE := bel_then hbc3 hbc2
      have KF7 : Hid (∀ w' : World, Below wc.heap.size wc w' → Below wc.heap.size wc w' ∧ w'.cell? ⟨w.heap.size, 0, none⟩ = some (.int .i64 r.fr) ∧ w'.cell? ⟨w.heap.size, 1, none⟩ = some (.int .i64 r.to) ∧ w'.cell? ⟨w.heap.size, 2, none⟩ = some (.int .i64 r.proto) ∧ w'.cell? ⟨w.heap.size, 3, none⟩ = some (.int .u32 r.src) ∧ w'.cell? ⟨w.heap.size, 4, none⟩ = some (.int .u32 r.dst) ∧ w'.cell? ⟨w.heap.size, 5, none⟩ = some (.int .i64 r.sb) ∧ w'.cell? ⟨w.heap.size, 6, none⟩ = some (.int .i64 r.db) ∧ w'.cell? ⟨w.heap.size, 7, none⟩ = some (.int .i64 r.lo) ∧ w'.cell? ⟨w.heap.size, 8, none⟩ = some (.int .i64 r.hi) ∧ w'.cell? ⟨w.heap.size, 9, none⟩ = some (.int .i64 r.act) ∧ w'.cell? ⟨w.heap.size + 1, 0, none⟩ = some (.int .i64 t.proto) ∧ w'.cell? ⟨w.heap.size + 1, 1, none⟩ = some (.int .u32 t.src) ∧ w'.cell? ⟨w.heap.size + 1, 2, none⟩ = some (.int .i64 t.sport) ∧ w'.cell? ⟨w.heap.size + 1, 3, none⟩ = some (.int .u32 t.dst) ∧ w'.cell? ⟨w.heap.size + 1, 4, none⟩ = some (.int .i64 t.dport)) := Lib.hid fun w' hb => ⟨hb, (KF.out w' (bel_then hbcE hb)).2⟩
      have hR3 := hR1.below hbcE
      go_upto_region 7 with fail
      go_cut [15, 16] (fun s15 s16 wx => s15 = .int .i64 cc ∧ s16 = .int .i64 jj ∧ Below wc.heap.size wc wx)
      case first =>
        go_region_held3 (fun w' => Below wc.heap.size wc w' ∧ w'.cell? ⟨w.heap.size, 0, none⟩ = some (.int .i64 r.fr) ∧ w'.cell? ⟨w.heap.size, 1, none⟩ = some (.int .i64 r.to) ∧ w'.cell? ⟨w.heap.size, 2, none⟩ = some (.int .i64 r.proto) ∧ w'.cell? ⟨w.heap.size, 3, none⟩ = some (.int .u32 r.src) ∧ w'.cell? ⟨w.heap.size, 4, none⟩ = some (.int .u32 r.dst) ∧ w'.cell? ⟨w.heap.size, 5, none⟩ = some (.int .i64 r.sb) ∧ w'.cell? ⟨w.heap.size, 6, none⟩ = some (.int .i64 r.db) ∧ w'.cell? ⟨w.heap.size, 7, none⟩ = some (.int .i64 r.lo) ∧ w'.cell? ⟨w.heap.size, 8, none⟩ = some (.int .i64 r.hi) ∧ w'.cell? ⟨w.heap.size, 9, none⟩ = some (.int .i64 r.act) ∧ w'.cell? ⟨w.heap.size + 1, 0, none⟩ = some (.int .i64 t.proto) ∧ w'.cell? ⟨w.heap.size + 1, 1, none⟩ = some (.int .u32 t.src) ∧ w'.cell? ⟨w.heap.size + 1, 2, none⟩ = some (.int .i64 t.sport) ∧ w'.cell? ⟨w.heap.size + 1, 3, none⟩ = some (.int .u32 t.dst) ∧ w'.cell? ⟨w.heap.size + 1, 4, none⟩ = some (.int .i64 t.dport)) ((first | exact KF7.out _ hbn | exact KF7.out _ (bel_alloc hbn _) | exact KF7.out _ (bel_drew (bel_alloc hbn _)) | exact KF7.out _ (bel_alloc (Below.refl wc.heap.size wc) _) | exact KF7.out _ (bel_drew (bel_alloc (Below.refl wc.heap.size wc) _)) | exact KF7.out _ (bel_alloc (bel_drew (bel_alloc (Below.refl wc.heap.size wc) _)) _) | exact KF7.out _ (bel_drew (bel_alloc (bel_drew (bel_alloc (Below.refl wc.heap.size wc) _)) _)) | exact KF7.out _ (bel_alloc (bel_alloc (Below.refl wc.heap.size wc) _) _) | exact KF7.out _ (bel_drew (bel_alloc (bel_alloc (Below.refl wc.heap.size wc) _) _)) | exact KF7.out _ (below_drewN (Below.refl wc.heap.size wc) _))) (first | (refine step_app _ (by rfl) (.tmp 56) (.tmp 57) 22 (by rfl) wc (by first | exact hbn | exact (bel_alloc hbn _) | exact (bel_drew (bel_alloc hbn _)) | exact (bel_alloc (Below.refl wc.heap.size wc) _) | exact (bel_drew (bel_alloc (Below.refl wc.heap.size wc) _)) | exact (bel_alloc (bel_drew (bel_alloc (Below.refl wc.heap.size wc) _)) _) | exact (bel_drew (bel_alloc (bel_drew (bel_alloc (Below.refl wc.heap.size wc) _)) _)) | exact (bel_alloc (bel_alloc (Below.refl wc.heap.size wc) _) _) | exact (bel_drew (bel_alloc (bel_alloc (Below.refl wc.heap.size wc) _) _)) | exact (below_drewN (Below.refl wc.heap.size wc) _)) 32 _ 10 72 Try.underlying22 info_rule rfl (by decide) (.slice (some ⟨_, 0, none⟩) 1 1) 1 r.cells (by rfl) (by repeat (first | exact own_lit1 _ wc r _ _ (by simp) (by simp) | apply World.ownsRow.drew | apply World.ownsRow.alloc)) A n c (rcells l) (by rfl) (by repeat (first | exact hR3 | apply Rd.drew | apply Rd.alloc)) (one_rules l) (by unfold maxLen; omega) (by omega) ?_; intro A5 c5 w5 hown5 hbn hg5; rw [rcells_cons] at hown5) | (go_at_call 12; refine (ask_spec A5 (1 + n) c5 (r :: l) fr tz t _ (by first | exact RdRow.of_own hown5 (by simp; omega) (by omega) | exact RdRow.of_own hown5.drew (by simp; omega) (by omega) | exact RdRow.of_own hown5.drew.drew (by simp; omega) (by omega)) HWF.out.2 ht).mono ?_; rw [← HV.out.2.2.1, ← HV.out.2.2.2.1]; rintro e w6 ⟨rfl, hb6⟩; have hbo := hbn; have hbn := bel_then hbo hb6))
        all_goals (go_wp2_with fail; go_meet; exact ⟨rfl, rfl, hbn⟩)
      case rest =>
      obtain ⟨rfl, rfl, hbc4⟩ := hcut
      have hbF := bel_then hbE hbc4
      obtain ⟨_, a0, a1, a2, a3, a4, a5, a6, a7, a8, a9, b0, b1, b2, b3, b4⟩ := KF.out wc (bel_then hbcE hbc4)
      have hf7 := hfit wc
      clear hfit hR1 hR2 hR3 KF3 KF7 HV HWF hwf hrd rc
      go_wp2_with fail
      refine hf7.mono ?_
      rintro e w7 ⟨rfl, hb7⟩
      have hbG := bel_then hbF hb7
      obtain ⟨_, a0, a1, a2, a3, a4, a5, a6, a7, a8, a9, b0, b1, b2, b3, b4⟩ := KF.out w7 (bel_then (bel_then hbcE hbc4) hb7)
      clear hf7 KF
      obtain ⟨v1, v2, v3, v4, v5, v6, v7⟩ := HVV.out
      rw [hl] at v1 v6
      by_cases h0 : 0 ≤ at_
      · rw [if_pos h0] at v1 v2
        have h0' : ¬ at_ < 0 := by omega
        rw [if_neg h0'] at v3
        cases ff
        · simp only [Bool.false_eq_true, if_false] at v3 v4
          subst v1 v2 v3 v4
          have e1 : (kk == -1) = false := by simp; omega
          have ew : IntKind.i64.wrap (kk + 1) = kk + 1 := IntWalk.i64_in _ (by omega)
          have e2 : (1 + kk == kk + 1) = true := by simp; omega
          clear v5 v7
          go_wp2
          all_goals
            go_ret
            exact ⟨ret_bool (by first | rfl | (simp; done) | (simp_all; done) | omega), hbG⟩
        · simp only [if_true] at v3 v4
          subst v1 v2 v3 v4
          clear v5 v7
          go_wp2
          all_goals
            go_ret
            exact ⟨ret_bool (by first | rfl | (simp; done) | (simp_all; done) | omega), hbG⟩
      · obtain rfl : at_ = -1 := by omega
        have v8 := v7 (by omega)
        subst v8
        cases ff
        · simp at v1 v2 v3 v4
          subst v1 v2 v3 v4
          clear v5 v6 v7
          go_wp2
          all_goals
            go_ret
            exact ⟨ret_bool (by first | rfl | (simp; done) | (simp_all; done) | omega), hbG⟩
        · simp at v1 v2 v3 v4
          subst v1 v2 v3 v4
          have hn0 : (0 : Int) ≤ (n : Int) := by omega
          clear v5 v6 v7
          go_wp2
          all_goals
            go_ret
            exact ⟨ret_bool (by first | rfl | (simp; done) | (simp_all; done) | omega), hbG⟩
end Go.Proofs.Ytdocojhjknhjnaa
