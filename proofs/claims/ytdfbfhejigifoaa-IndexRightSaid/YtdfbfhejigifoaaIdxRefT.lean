/- The walks of the reference's Len, size, seek, with, New. -/
import Derived.Test.YtdfbfhejigifoaaIdxRefH
import Derived.Test.YtdfbfhejigifoaaIdxDelW
import Derived.Test.YtdfbfhejigifoaaIdxFacts
namespace Go.Proofs.Ytdfbfhejigifoaa
open Go.RowKit
set_option linter.unusedVariables false
attribute [local go_sem ↓] eq_key
set_option maxHeartbeats 4000000 in
theorem rlen_spec (A : Option Addr) (n c : Nat) (l : List Idx.Cell) (w : World) (hT : TabR w A n l) (hn : n ≤ 9223372036854775807) :
    Calls Try.prog 16 #[.slice A n c] w fun e w' => e = .returned (.int .i64 (Idx.many l)) ∧ w = w' := by
  have HT := Lib.hid hT
  have hl := Lib.hid hT.len
  clear hT
  go_enter Try.func16, Try.ntmps16
  go_wp2
  go_loop [3, 4] (fun s i => ∃ j : Nat, j ≤ n ∧ i = .int .i64 j ∧ s = .int .i64 (Idx.many (l.take j))) (fun _ i => n - (intOf i).toNat)
  case atStart => exact ⟨0, by omega, rfl, rfl⟩
  case round =>
    obtain ⟨j, hj, rfl, rfl⟩ := hrel
    by_cases hlt : j < n
    · have hltz : (j : Int) < (n : Int) := by omega
      obtain ⟨b, off, rfl, hbs, e0, e1, e2, e3, e4, e5, e6⟩ := HT.out.seven hlt
      have HS := Lib.hid (Idx.many_snoc (l := l) (k := j) (by rw [hl.out]; exact hlt))
      have hml : Idx.many (l.take j) ≤ j := by have := Idx.many_le (l.take j); have := List.length_take_le j l; omega
      generalize Idx.at' l j = x at *
      generalize Idx.many (l.take j) = m at *
      cases hu : x.u
      · rw [hu] at e0
        have HS' : Hid (Idx.many (l.take (j + 1)) = m) := Lib.hid (by have h' := HS.out; rw [hu] at h'; simpa using h')
        clear HS hu
        go_wp2
        go_round
        case rel => exact ⟨j + 1, by omega, by go_num, by rw [HS'.out]⟩
        case measure => simp [intOf]; omega
      · rw [hu] at e0
        have HS' : Hid (Idx.many (l.take (j + 1)) = m + 1) := Lib.hid (by have h' := HS.out; rw [hu] at h'; simpa using h')
        clear HS hu
        go_wp2
        go_round
        case rel => exact ⟨j + 1, by omega, by go_num, by rw [HS'.out]; go_num⟩
        case measure => simp [intOf]; omega
    · have hltz : ¬ (j : Int) < (n : Int) := by omega
      have HE : Hid (Idx.many (l.take j) = Idx.many l) := Lib.hid (by rw [List.take_of_length_le (by rw [hl.out]; omega)])
      go_wp2
      go_ret
      exact ⟨ret_int (by rw [HE.out]), rfl⟩
def Idx.two : Nat → Int
  | 0 => 2
  | j + 1 => Idx.two j * 2
theorem Idx.two_bd {j : Nat} (h : j ≤ 10) : 2 ≤ Idx.two j ∧ Idx.two j ≤ 2048 ∧ (Idx.two j ≤ 1024 ↔ j ≤ 9) := by
  rcases (show j = 0 ∨ j = 1 ∨ j = 2 ∨ j = 3 ∨ j = 4 ∨ j = 5 ∨ j = 6 ∨ j = 7 ∨ j = 8 ∨ j = 9 ∨ j = 10 by omega) with rfl | rfl | rfl | rfl | rfl | rfl | rfl | rfl | rfl | rfl | rfl <;> decide
theorem Idx.size_two {n : Int} : Idx.size n = true ↔ ∃ j, j ≤ 9 ∧ n = Idx.two j := by
  unfold Idx.size
  rw [decide_eq_true_eq]
  constructor
  · rintro (h | h | h | h | h | h | h | h | h | h)
    · exact ⟨0, by decide, h⟩
    · exact ⟨1, by decide, h⟩
    · exact ⟨2, by decide, h⟩
    · exact ⟨3, by decide, h⟩
    · exact ⟨4, by decide, h⟩
    · exact ⟨5, by decide, h⟩
    · exact ⟨6, by decide, h⟩
    · exact ⟨7, by decide, h⟩
    · exact ⟨8, by decide, h⟩
    · exact ⟨9, by decide, h⟩
  · rintro ⟨j, hj, rfl⟩
    rcases (show j = 0 ∨ j = 1 ∨ j = 2 ∨ j = 3 ∨ j = 4 ∨ j = 5 ∨ j = 6 ∨ j = 7 ∨ j = 8 ∨ j = 9 by omega) with rfl | rfl | rfl | rfl | rfl | rfl | rfl | rfl | rfl | rfl <;> simp [Idx.two]
set_option maxHeartbeats 4000000 in
theorem rsize_spec (n : Int) (w : World) : Calls Try.prog 22 #[.int .i64 n] w fun e w' => e = .returned (.bool (Idx.size n)) ∧ w = w' := by
  go_enter Try.func22, Try.ntmps22
  go_wp2
  go_loop [3] (fun s => ∃ j : Nat, j ≤ 10 ∧ s = .int .i64 (Idx.two j) ∧ Aside (∀ i, i < j → n ≠ Idx.two i)) (fun s => (2048 - intOf s).toNat)
  case atStart => exact ⟨0, by omega, rfl, (show Aside _ from fun i hi => by omega)⟩
  case round =>
    obtain ⟨j, hj, rfl, BN⟩ := hrel
    have hbd := Idx.two_bd hj
    have HT : Hid (Idx.two (j + 1) = Idx.two j * 2) := Lib.hid rfl
    by_cases hj9 : j ≤ 9
    · have hle := hbd.2.2.2 hj9
      have HY : Hid (Idx.two j = n → Idx.size n = true) := Lib.hid fun h => Idx.size_two.2 ⟨j, hj9, h.symm⟩
      have hb1 := hbd.1
      clear hbd
      generalize ht : Idx.two j = t at *
      have HTT := Lib.hid ht
      clear ht
      by_cases he : t = n
      · have HE := Lib.hid (HY.out he)
        subst he
        go_wp2
        go_ret
        exact ⟨ret_bool HE.out.symm, rfl⟩
      · have hez : (t == n) = false := by simpa using he
        have HNE := Lib.hid he
        clear he
        go_wp2
        go_round
        case rel => exact ⟨j + 1, by omega, by rw [HT.out], (show Aside _ from fun i hi => by by_cases e : i = j; (rw [e, HTT.out]; exact fun h => HNE.out h.symm); exact BN.out i (by omega))⟩
        case measure => simp [intOf]; omega
    · have hle : ¬ Idx.two j ≤ 1024 := fun h => hj9 (hbd.2.2.1 h)
      have HE : Hid (Idx.size n = false) := Lib.hid (by
        cases hs : Idx.size n
        · rfl
        · obtain ⟨i, hi, e⟩ := Idx.size_two.1 hs
          exact absurd e (BN.out i (by omega)))
      clear hbd
      generalize Idx.two j = t at *
      go_wp2
      go_ret
      exact ⟨ret_bool HE.out.symm, rfl⟩
set_option maxHeartbeats 4000000 in
theorem seek_spec (A : Option Addr) (n c : Nat) (l : List Idx.Cell) (k : Idx.Key) (p : Nat) (w : World) (hT : TabR w A n l) (hk : k.wf) (hN : n ≤ 1000000) (hf : Idx.fnd l k = some p) :
    Calls Try.prog 24 #[.slice A n c, .agg #[.int .i64 k.pr, .int .u32 k.sr, .int .i64 k.sp, .int .u32 k.ds, .int .i64 k.dp]] w fun e w' => e = .returned (.int .i64 p) ∧ Below w.heap.size w w' := by
  obtain ⟨W, hW⟩ : ∃ W, W = w.alloc (.cells #[.int .i64 k.pr, .int .u32 k.sr, .int .i64 k.sp, .int .u32 k.ds, .int .i64 k.dp] 25) := ⟨_, rfl⟩
  have hbW : Below w.heap.size w W := by rw [hW]; exact (Below.refl _ _).alloc (Nat.le_refl _) _
  have K5 : Hid (∀ w' : World, Below W.heap.size W w' → w'.cell? ⟨w.heap.size, 0, none⟩ = some (.int .i64 k.pr) ∧ w'.cell? ⟨w.heap.size, 1, none⟩ = some (.int .u32 k.sr) ∧ w'.cell? ⟨w.heap.size, 2, none⟩ = some (.int .i64 k.sp) ∧ w'.cell? ⟨w.heap.size, 3, none⟩ = some (.int .u32 k.ds) ∧ w'.cell? ⟨w.heap.size, 4, none⟩ = some (.int .i64 k.dp)) := Lib.hid fun w' hb => key_c5 W k w.heap.size (by rw [hW]; exact BlkV.new _ _ _) w' hb
  have hTW := Lib.hid (hT.below hbW)
  obtain ⟨c0, c1, c2, c3, c4⟩ := K5.out W (Below.refl _ _)
  have HH := Lib.hid (refHash_spec k hk W)
  have hE := Idx.ends_of_fnd hf
  have hl := hT.len
  have hhb := Idx.hash_bd k
  have hn0 : 0 < n := by rw [← hl]; exact Idx.fnd_pos hf
  obtain ⟨h, hh⟩ : ∃ h, h = Idx.home n k := ⟨_, rfl⟩
  have hhn : h < n := by rw [hh]; exact Idx.home_lt hn0 k
  have HB : Hid (Idx.hash k % (n : Int) = (h : Int)) := Lib.hid (by rw [hh, Idx.home_int])
  unfold Idx.Ends at hE
  rw [hl, ← hh] at hE
  obtain ⟨hp, hst, hmin⟩ := hE
  have HST := Lib.hid hst
  have HMIN := Lib.hid hmin
  clear hT hf hst hmin
  generalize Idx.hash k = H at HH HB hhb
  have hnz : ¬ (n : Int) = 0 := by omega
  have hnz1 : (0 : Int) < (n : Int) := by omega
  go_enter Try.func24, Try.ntmps24
  go_upto_region 1 with (fail)
  rw [← hW]
  clear hW hh
  go_wp2_with fail
  refine HH.out.mono ?_
  rintro e w2 ⟨rfl, hb⟩
  have hb2 := bel_then hbW hb
  have HT := Lib.hid (hTW.out.below hb)
  have HD : Hid (∀ w' : World, Below w2.heap.size w2 w' → w'.cell? ⟨w.heap.size, 0, none⟩ = some (.int .i64 k.pr) ∧ w'.cell? ⟨w.heap.size, 1, none⟩ = some (.int .u32 k.sr) ∧ w'.cell? ⟨w.heap.size, 2, none⟩ = some (.int .i64 k.sp) ∧ w'.cell? ⟨w.heap.size, 3, none⟩ = some (.int .u32 k.ds) ∧ w'.cell? ⟨w.heap.size, 4, none⟩ = some (.int .i64 k.dp)) := Lib.hid fun w' h' => K5.out w' (bel_then hb h')
  clear hb hTW HH K5 c0 c1 c2 c3 c4 hbW
  have hl1 := Lib.hid hl
  clear hl
  go_wp2_with fail
  go_loopg [6] n (fun gg i wx => ∃ j : Nat, j < n ∧ n - j ≤ gg ∧ i = .int .i64 j ∧ j ≤ Idx.dist n h p ∧ Aside (Below w2.heap.size w2 wx))
  case atStart => exact ⟨0, by omega, by omega, rfl, by omega, Below.refl _ _⟩
  case round =>
    obtain ⟨j, hj, hg, rfl, hjd, BW⟩ := hrel
    have hq0 : 0 ≤ H % (n : Int) := by rw [HB.out]; omega
    have hq1 : H % (n : Int) < (n : Int) := by rw [HB.out]; omega
    have hjz : (j : Int) < (n : Int) := by omega
    have han : Idx.adv n h j < n := Idx.adv_lt (by omega)
    have hanz : (Idx.adv n h j : Int) < (n : Int) := by omega
    have HAS : (H % (n : Int) + (j : Int)) % (n : Int) = (Idx.adv n h j : Nat) := by rw [HB.out]; unfold Idx.adv; push_cast; rfl
    obtain ⟨b, off, rfl, hbs, e0, e1, e2, e3, e4, e5, e6⟩ := (HT.out.below BW.out).seven han
    obtain ⟨d0, d1, d2, d3, d4⟩ := HD.out wr BW.out
    by_cases hjD : j = Idx.dist n h p
    · have hap : Idx.adv n h j = p := by rw [hjD]; exact Idx.adv_dist hhn hp
      have hst := HST.out
      rw [← hap] at hst
      rw [Idx.stop_true] at hst
      clear hjD HST HMIN
      generalize Idx.adv n h j = a at *
      have HAP := Lib.hid hap
      clear hap
      generalize hx : Idx.at' l a = x at *
      have HX := Lib.hid hx
      clear hx
      cases hu : x.u
      · rw [hu] at e0
        clear hst hu
        go_wp2_with fail
        go_quiet (fail)
        go_wp2_with fail
        go_ret
        exact ⟨ret_int (by rw [← HAP.out]; exact HAS), bel_then hb2 (bel_drN2 BW.out _)⟩
      · rw [hu] at e0
        have hnd : decide (x.k = k) = true := by
          rcases hst with h1 | h1
          · rw [hu] at h1; cases h1
          · simpa using h1
        clear hst hu
        go_wp2_with fail
        go_quiet (fail)
        go_wp2_with fail
        go_ret
        exact ⟨ret_int (by rw [← HAP.out]; exact HAS), bel_then hb2 (bel_drN2 BW.out _)⟩
    · have hst := HMIN.out (Idx.adv n h j) han (by rw [Idx.dist_adv hhn hj]; omega)
      have hdl := Idx.dist_lt hhn hp
      rw [Idx.stop_false] at hst
      obtain ⟨hu, hne⟩ := hst
      rw [hu] at e0
      have hjj : j + 1 ≤ Idx.dist n h p := by omega
      generalize Idx.adv n h j = a at *
      generalize Idx.at' l a = x at *
      have hnd : decide (x.k = k) = false := by simpa using hne
      clear hne hu HST HMIN hjD
      go_wp2_with fail
      go_quiet (fail)
      go_wp2_with fail
      go_roundg (n - (j + 1))
      case measure => omega
      case rel => exact ⟨j + 1, by omega, by omega, by go_num, hjj, bel_drN2 BW.out _⟩
end Go.Proofs.Ytdfbfhejigifoaa
