/- The walk of index.find. -/
import Derived.Test.YtdboehogkmidbaaIdxEq
namespace Go.Proofs.Ytdboehogkmidbaa
open Go.RowKit
set_option linter.unusedVariables false
attribute [local go_sem ↓] eq_key
theorem bits_low64 (j : Nat) (hj : j ≤ 62) (a : Int) : Go.bits .and .i64 a (2 ^ j - 1) = a % 2 ^ j := by
  have h62 : (2 : Int) ^ j ≤ 2 ^ 62 := by exact_mod_cast Nat.pow_le_pow_right (by omega) hj
  have h0 : (1 : Int) ≤ 2 ^ j := by exact_mod_cast Nat.one_le_two_pow
  have e1 : (BitVec.ofInt 64 (2 ^ j - 1)).toNat = 2 ^ j - 1 := by
    rw [BitVec.toNat_ofInt, Int.emod_eq_of_lt (by omega) (by omega)]
    have : ((2 ^ j - 1 : Nat) : Int) = 2 ^ j - 1 := by rw [Int.natCast_sub Nat.one_le_two_pow]; push_cast; rfl
    omega
  have e2 : (BitVec.ofInt 64 a &&& BitVec.ofInt 64 (2 ^ j - 1)).toNat = (a % 2 ^ j).toNat := by
    rw [BitVec.toNat_and, e1, Nat.and_two_pow_sub_one_eq_mod, BitVec.toNat_ofInt]
    have hd : (2 : Int) ^ j ∣ ((2 ^ 64 : Nat) : Int) := by exact_mod_cast Int.natCast_dvd_natCast.2 (Nat.pow_dvd_pow 2 (by omega))
    have h2 : 0 ≤ a % ((2 ^ 64 : Nat) : Int) := Int.emod_nonneg _ (by decide)
    have h3 : a % ((2 ^ 64 : Nat) : Int) % 2 ^ j = a % 2 ^ j := Int.emod_emod_of_dvd _ hd
    rw [← h3]
    obtain ⟨q, hq⟩ := Int.eq_ofNat_of_zero_le h2
    rw [hq, Int.toNat_natCast]
    have : (q : Int) % 2 ^ j = ((q % 2 ^ j : Nat) : Int) := by push_cast; rfl
    rw [this, Int.toNat_natCast]
  have h4 := Int.emod_nonneg a (b := 2 ^ j) (by omega)
  have h5 := Int.emod_lt_of_pos a (b := 2 ^ j) (by omega)
  show IntKind.i64.wrap ((BitVec.ofInt 64 a &&& BitVec.ofInt 64 (2 ^ j - 1)).toNat : Int) = _
  rw [e2, Int.toNat_of_nonneg h4, IntKind.wrap_i64]
  omega
theorem Idx.mask_bits {N : Nat} (hN : Idx.size N = true) (a : Int) : Go.bits .and .i64 a ((N : Int) - 1) = a % (N : Int) := by
  unfold Idx.size at hN
  rw [decide_eq_true_eq] at hN
  rcases hN with h | h | h | h | h | h | h | h | h | h <;> rw [h]
  · exact bits_low64 1 (by decide) a
  · exact bits_low64 2 (by decide) a
  · exact bits_low64 3 (by decide) a
  · exact bits_low64 4 (by decide) a
  · exact bits_low64 5 (by decide) a
  · exact bits_low64 6 (by decide) a
  · exact bits_low64 7 (by decide) a
  · exact bits_low64 8 (by decide) a
  · exact bits_low64 9 (by decide) a
  · exact bits_low64 10 (by decide) a
theorem Idx.home_int (N : Nat) (k : Idx.Key) : Idx.hash k % (N : Int) = (Idx.home N k : Int) := by
  have hb := Idx.hash_bd k
  unfold Idx.home
  push_cast
  rw [show (((Idx.hash k).toNat : Nat) : Int) = Idx.hash k by omega]
theorem Idx.adv_int {N a : Nat} (ha : a < N) : ((a : Int) + 1) % (N : Int) = (Idx.adv N a 1 : Int) := by
  unfold Idx.adv
  push_cast
  rfl
theorem Idx.adv_zero {N a : Nat} (h : a < N) : Idx.adv N a 0 = a := by
  unfold Idx.adv
  exact Nat.mod_eq_of_lt (by omega)
theorem Idx.adv_adv {N a j : Nat} : Idx.adv N (Idx.adv N a j) 1 = Idx.adv N a (j + 1) := by
  unfold Idx.adv
  rw [Nat.mod_add_mod, Nat.add_assoc]
theorem tup_ib {a b : Int} {c d : Bool} (h : a = b) (h' : c = d) : Ending.returned (.tuple #[.int .i64 a, .bool c]) = .returned (.tuple #[.int .i64 b, .bool d]) := by rw [h, h']
set_option maxRecDepth 8000 in
set_option maxHeartbeats 4000000 in
theorem find_spec (A : Option Addr) (n c : Nat) (l : List Idx.Cell) (k : Idx.Key) (p : Nat) (w : World) (hT : TabR w A n l) (hk : k.wf) (hN : Idx.size n = true) (hf : Idx.fnd l k = some p) :
    Calls Try.prog 32 #[.slice A n c, .agg #[.int .i64 k.pr, .int .u32 k.sr, .int .i64 k.sp, .int .u32 k.ds, .int .i64 k.dp]] w fun e w' => e = .returned (.tuple #[.int .i64 p, .bool (Idx.at' l p).u]) ∧ Below w.heap.size w w' := by
  obtain ⟨W, hW⟩ : ∃ W, W = w.alloc (.cells #[.int .i64 k.pr, .int .u32 k.sr, .int .i64 k.sp, .int .u32 k.ds, .int .i64 k.dp] 29) := ⟨_, rfl⟩
  have hbW : Below w.heap.size w W := by rw [hW]; exact (Below.refl _ _).alloc (Nat.le_refl _) _
  have K5 : Hid (∀ w' : World, Below W.heap.size W w' → w'.cell? ⟨w.heap.size, 0, none⟩ = some (.int .i64 k.pr) ∧ w'.cell? ⟨w.heap.size, 1, none⟩ = some (.int .u32 k.sr) ∧ w'.cell? ⟨w.heap.size, 2, none⟩ = some (.int .i64 k.sp) ∧ w'.cell? ⟨w.heap.size, 3, none⟩ = some (.int .u32 k.ds) ∧ w'.cell? ⟨w.heap.size, 4, none⟩ = some (.int .i64 k.dp)) := Lib.hid fun w' hb => key_c5 W k w.heap.size (by rw [hW]; exact BlkV.new _ _ _) w' hb
  have hTW := Lib.hid (hT.below hbW)
  obtain ⟨c0, c1, c2, c3, c4⟩ := K5.out W (Below.refl _ _)
  have HH := Lib.hid (thash_spec k hk W)
  have hE := Idx.ends_of_fnd hf
  have hl := hT.len
  have hsz := Idx.size_bd hN
  have hhb := Idx.hash_bd k
  obtain ⟨h, hh⟩ : ∃ h, h = Idx.home n k := ⟨_, rfl⟩
  have hhn : h < n := by rw [hh]; exact Idx.home_lt (by omega) k
  have HB : Hid (Go.bits .and .i64 (Idx.hash k) ((n : Int) - 1) = (h : Int)) := Lib.hid (by rw [hh, Idx.mask_bits hN, Idx.home_int])
  unfold Idx.Ends at hE
  rw [hl, ← hh] at hE
  obtain ⟨hp, hst, hmin⟩ := hE
  have HST := Lib.hid hst
  have HMIN := Lib.hid hmin
  have HM1 : Hid (∀ a : Nat, Go.bits .and .i64 ((a : Int) + 1) ((n : Int) - 1) = ((a : Int) + 1) % n) := Lib.hid fun a => Idx.mask_bits hN _
  clear hT hf hst hmin hN
  generalize Idx.hash k = H at HH HB hhb
  go_enter Try.func32, Try.ntmps32
  go_upto_region 1 with (fail)
  rw [← hW]
  clear hW hh
  go_wp2_with fail
  refine HH.out.mono ?_
  rintro e w2 ⟨rfl, hb⟩
  have hb2 := bel_then hbW hb
  have HT := Lib.hid (hTW.out.below hb)
  have HD : Hid (∀ w' : World, Below w2.heap.size w2 w' → w'.cell? ⟨w.heap.size, 0, none⟩ = some (.int .i64 k.pr) ∧ w'.cell? ⟨w.heap.size, 1, none⟩ = some (.int .u32 k.sr) ∧ w'.cell? ⟨w.heap.size, 2, none⟩ = some (.int .i64 k.sp) ∧ w'.cell? ⟨w.heap.size, 3, none⟩ = some (.int .u32 k.ds) ∧ w'.cell? ⟨w.heap.size, 4, none⟩ = some (.int .i64 k.dp)) := Lib.hid fun w' h' => K5.out w' (bel_then hb h')
  obtain ⟨d0, d1, d2, d3, d4⟩ := K5.out w2 hb
  have HBo := HB.out
  clear hb hTW HH K5 c0 c1 c2 c3 c4 hbW HB
  have hl1 := Lib.hid hl
  clear hl
  go_wp2_with fail
  clear HBo d0 d1 d2 d3 d4
  go_loopg [6, 16] n (fun gg a i wx => ∃ j : Nat, j < n ∧ n - j ≤ gg ∧ i = .int .i64 j ∧ a = .int .i64 (Idx.adv n h j : Nat) ∧ j ≤ Idx.dist n h p ∧ Aside (Below w2.heap.size w2 wx))
  case atStart => exact ⟨0, by omega, by omega, rfl, by rw [Idx.adv_zero hhn], by omega, Below.refl _ _⟩
  case round =>
    obtain ⟨j, hj, hg, rfl, rfl, hjd, BW⟩ := hrel
    have hjz : (j : Int) < (n : Int) := by omega
    have han : Idx.adv n h j < n := Idx.adv_lt (by omega)
    have hanz : (Idx.adv n h j : Int) < (n : Int) := by omega
    have HAS : Hid ((((Idx.adv n h j : Nat) : Int) + 1) % n = (Idx.adv n h (j + 1) : Nat)) := Lib.hid (by rw [Idx.adv_int han, Idx.adv_adv])
    have HM := Lib.hid (HM1.out (Idx.adv n h j))
    obtain ⟨b, off, rfl, hbs, e0, e1, e2, e3, e4, e5, e6⟩ := (HT.out.below BW.out).seven han
    obtain ⟨d0, d1, d2, d3, d4⟩ := HD.out wr BW.out
    by_cases hjD : j = Idx.dist n h p
    · have hap : Idx.adv n h j = p := by rw [hjD]; exact Idx.adv_dist hhn hp
      have hst := HST.out
      rw [← hap] at hst
      rw [Idx.stop_true] at hst
      clear hjD HST HMIN HM1
      generalize Idx.adv n h j = a at *
      have HAP := Lib.hid hap
      clear hap
      generalize hx : Idx.at' l a = x at *
      have HX := Lib.hid hx
      clear hx
      cases hu : x.u
      · rw [hu] at e0
        have HU := Lib.hid hu
        clear hst hu
        go_wp2_with fail
        go_quiet (fail)
        go_wp2_with fail
        go_quiet (fail)
        go_wp2_with fail
        go_ret2
        exact ⟨tup_ib (by rw [← HAP.out]) (by rw [← HAP.out, HX.out, HU.out]), bel_then hb2 (bel_drN2 (bel_drN2 BW.out _) _)⟩
      · rw [hu] at e0
        have hnd : decide (x.k = k) = true := by
          rcases hst with h1 | h1
          · rw [hu] at h1; cases h1
          · simpa using h1
        have HU := Lib.hid hu
        clear hst hu
        go_wp2_with fail
        go_quiet (fail)
        go_wp2_with fail
        go_quiet (fail)
        go_wp2_with fail
        go_ret2
        exact ⟨tup_ib (by rw [← HAP.out]) (by rw [← HAP.out, HX.out, HU.out]), bel_then hb2 (bel_drN2 (bel_drN2 BW.out _) _)⟩
    · have hst := HMIN.out (Idx.adv n h j) han (by rw [Idx.dist_adv hhn hj]; omega)
      have hdl := Idx.dist_lt hhn hp
      rw [Idx.stop_false] at hst
      obtain ⟨hu, hne⟩ := hst
      rw [hu] at e0
      have hjj : j + 1 ≤ Idx.dist n h p := by omega
      generalize hA : Idx.adv n h j = a at *
      have HA := Lib.hid hA
      generalize Idx.at' l a = x at *
      have hnd : decide (x.k = k) = false := by simpa using hne
      have HM' := HM.out
      have HAS' := HAS.out
      generalize hA2 : Idx.adv n h (j + 1) = a2 at *
      have HA2 := Lib.hid hA2
      clear hne hu hA HST HMIN HM1 HM HAS hA2 hjD
      go_wp2_with fail
      go_quiet (fail)
      go_wp2_with fail
      go_roundg (n - (j + 1))
      case measure => omega
      case rel => exact ⟨j + 1, by omega, by omega, by go_num, by rw [HA2.out], hjj, bel_drN2 BW.out _⟩
end Go.Proofs.Ytdboehogkmidbaa
