/- The walks of the reference's Sum and Bits with a key. -/
import Derived.Test.YtpidpbjbgjkaaaaDoorMacSum
import Derived.Test.YtpidpbjbgjkaaaaDoorShaRef1
namespace Go.Proofs.YtpidpbjbgjkaaaaDoor
open Go.RowKit
set_option linter.unusedVariables false
/-- two rows of the call's own that lie apart -/
structure Two (w : World) (base : Nat) (e : TypeId) (a : Value) (n : Nat) (xs : List Value) (b : Value) (m : Nat) (ys : List Value) : Prop where
  fst : w.ownsRow base e 1 a n xs
  snd : w.ownsRow base e 1 b m ys
  dis : a.ownBlock = none ∨ b.ownBlock = none ∨ a.ownBlock ≠ b.ownBlock
theorem Two.swap {w : World} {base : Nat} {e : TypeId} {a : Value} {n : Nat} {xs : List Value} {b : Value} {m : Nat} {ys : List Value} (h : Two w base e a n xs b m ys) : Two w base e b m ys a n xs := by
  refine ⟨h.snd, h.fst, ?_⟩
  rcases h.dis with h | h | h
  · exact Or.inr (Or.inl h)
  · exact Or.inl h
  · exact Or.inr (Or.inr (Ne.symm h))
theorem Two.below {w w' : World} {base : Nat} {e : TypeId} {a : Value} {n : Nat} {xs : List Value} {b : Value} {m : Nat} {ys : List Value} (h : Two w base e a n xs b m ys) (hb : Below w.heap.size w w') : Two w' base e a n xs b m ys :=
  ⟨own_below h.fst hb, own_below h.snd hb, h.dis⟩
theorem Two.app {w w' : World} {base : Nat} {e : TypeId} {a a' : Value} {n n' : Nat} {xs xs' : List Value} {b : Value} {m : Nat} {ys : List Value} (h : Two w base e a n xs b m ys)
    (h1 : w'.ownsRow base e 1 a' n' xs') (hg : w.grownBy w' a.ownBlock) (hat : a'.ownBlock = a.ownBlock ∨ a'.ownBlock = some w.heap.size) : Two w' base e a' n' xs' b m ys := by
  have hne : b.ownBlock = none ∨ b.ownBlock ≠ a.ownBlock := by
    rcases h.dis with d | d | d
    · rw [d]
      rcases b.ownBlock with _ | k
      · exact Or.inl rfl
      · exact Or.inr (by simp)
    · exact Or.inl d
    · exact Or.inr (Ne.symm d)
  refine ⟨h1, h.snd.kept hg hne, ?_⟩
  rcases hat with e | e
  · rw [e]; exact h.dis
  · rw [e]
    rcases hb : b.ownBlock with _ | k
    · exact Or.inr (Or.inl rfl)
    · have := (h.snd.lt k hb).2
      exact Or.inr (Or.inr (fun hh => by injection hh with hh; omega))
theorem Mac.mask_snoc (key : List Int) (y : Int) {i : Nat} (hi : i < 64) : (Mac.mask key y).take (i + 1) = (Mac.mask key y).take i ++ [Go.bits .xor .u8 ((Mac.full key).getD i 0) y] := by
  have h := Mac.mask_len key y
  have e := Mac.mask_get key y hi
  rw [List.take_add_one, List.getElem?_eq_getElem (by omega), ← e]
  simp [h, hi]
theorem Sha.wpart4 (s : List Int) : Sha.wpart s 0 4 = Sha.wordAt s 0 := by
  unfold Sha.wordAt
  simp only [Sha.wpart, Nat.mul_zero, Nat.zero_add, Int.zero_mul, Int.zero_add]
set_option maxRecDepth 4000 in
set_option maxHeartbeats 8000000 in
theorem rmsum_spec (A : Option Addr) (n c : Nat) (B : Option Addr) (m d : Nat) (k b : List Int) (w : World) (hT : TabK w) (hA : Rd w 1 A n (bs k)) (hBr : Rd w 1 B m (bs b)) (hk : isB k) (hb : isB b) (hn : n ≤ 4294967295) (hm : m ≤ 4294960000) :
    Calls Tryd.prog 70 #[.slice A n c, .slice B m d] w fun e w' => ∃ A' c', e = .returned (.slice A' 32 c') ∧ w'.ownsRow w.heap.size 5 1 (.slice A' 32 c') 32 (bs (Mac.sum k b)) ∧ Below w.heap.size w w' := by
  have hl := hA.blen
  have HT := Lib.hid hT
  have HA := Lib.hid hA
  have HBR := Lib.hid hBr
  have HKB := Lib.hid (And.intro hk hb)
  have HL := Lib.hid hl
  have HSUM : Hid (Mac.sum k b = Sha.sum (Mac.mask k 92 ++ Sha.sum (Mac.mask k 54 ++ b))) := Lib.hid rfl
  clear hT hA hBr hk hb hl
  go_enter Tryd.func70, Tryd.ntmps70
  go_upto_if 14 with (at_builtin; refine wpList_app0 _ rfl (.tmp 9) (.tmp 10) 27 rfl w (by exact Below.refl _ _) 5 (.int .u8 0) 1 1 Tryd.underlying27 pad_info8 rfl (by decide) rfl A n c (bs k) rfl (by exact HA.out) (one_bs k) (by unfold maxLen; omega) (by omega) ?_; intro A1 c1 w1 hown1 hb1 hg1 hat1)
  clear hg1 hat1
  go_cut [5] (fun s5 wx => ∃ (A' : Option Addr) (n' c' : Nat), s5 = .slice A' n' c' ∧ n' ≤ 64 ∧ wx.ownsRow w.heap.size 5 1 (.slice A' n' c') n' (bs (Mac.blk k)) ∧ Below w.heap.size w wx)
  case first =>
    by_cases h64 : 64 < n
    · have hz : (64 : Int) < (n : Int) := by omega
      have HBL : Hid (Sha.sum k = Mac.blk k) := Lib.hid (by unfold Mac.blk; rw [if_pos (by rw [HL.out]; exact h64)])
      have HB1 := Lib.hid hb1
      clear hown1 hb1
      go_wp2_with fail
      refine (rsum_spec A n c k w1 (HT.out.below HB1.out) (HA.out.below HB1.out) HKB.out.1 hn).mono ?_
      rintro e w2 ⟨A2, c2, rfl, hown, hb2⟩
      go_wp2_with fail
      go_meet
      exact ⟨A2, 32, c2, rfl, by omega, by rw [← HBL.out]; exact own_weaken' hown HB1.out.size, bel_then HB1.out hb2⟩
    · have HBL : Hid (k = Mac.blk k) := Lib.hid (by unfold Mac.blk; rw [if_neg (by rw [HL.out]; exact h64)])
      have hz : ¬ (64 : Int) < (n : Int) := by omega
      go_wp2_with fail
      go_meet
      exact ⟨A1, n, c1, rfl, by omega, by rw [← HBL.out]; exact hown1, hb1⟩
  case rest =>
  obtain ⟨A', n', c', rfl, hn', hR', hbx⟩ := hcut
  clear hown1 hb1
  have hbl : (Mac.blk k).length = n' := by have := hR'.1; rw [bs_len] at this; omega
  have HO := Lib.hid hR'
  have HFL : Hid (Mac.blk k ++ List.replicate (64 - n') 0 = Mac.full k) := Lib.hid (by unfold Mac.full; rw [hbl])
  clear hbl hR'
  go_wp2_with fail
  go_loopg [5] (64 - n') (fun g s5 wx => ∃ (j p : Nat) (A' : Option Addr) (c' : Nat), j + g = 64 - n' ∧ p = n' + j ∧ s5 = .slice A' p c' ∧ wx.ownsRow w.heap.size 5 1 (.slice A' p c') p (bs (Mac.blk k ++ List.replicate j 0)) ∧ Below w.heap.size w wx)
  case atStart => exact ⟨0, n', A', c', by omega, rfl, rfl, by simpa using HO.out, hbx⟩
  case round =>
    obtain ⟨j, p, A2, c2, hjg, hp, rfl, hown, hby⟩ := hrel
    clear hbx HO
    cases gk with
    | zero =>
      obtain rfl : j = 64 - n' := by omega
      obtain rfl : p = 64 := by omega
      rw [HFL.out] at hown
      obtain ⟨gk5, rfl, hgk0, hgk1, hgk2, hgk3⟩ := own_block hown (by omega)
      obtain ⟨wk, rfl⟩ : ∃ wk : World, wk = wr := ⟨_, rfl⟩
      have HKC : Hid (∀ wx, Below wk.heap.size wk wx → ∀ i, i < 64 → wx.cell? ⟨gk5, i, none⟩ = some (.int .u8 ((Mac.full k).getD i 0))) := Lib.hid fun wx hb i hi => by
        obtain ⟨b', off', e', hb', hc⟩ := ((Rd.of_own hown).below hb).byte hi
        injection e' with e'
        injection e' with e1 e2
        subst e1 e2
        rwa [Nat.zero_add] at hc
      have HFB : Hid (isB (Mac.full k)) := Lib.hid (Mac.full_isB HKB.out.1)
      have HG1 : Hid (∀ i, i < 64 → (Mac.mask k 54).take (i + 1) = (Mac.mask k 54).take i ++ [Go.bits .xor .u8 ((Mac.full k).getD i 0) 54]) := Lib.hid fun i hi => Mac.mask_snoc k 54 hi
      have HG2 : Hid (∀ i, i < 64 → (Mac.mask k 92).take (i + 1) = (Mac.mask k 92).take i ++ [Go.bits .xor .u8 ((Mac.full k).getD i 0) 92]) := Lib.hid fun i hi => Mac.mask_snoc k 92 hi
      have HML : Hid ((Mac.mask k 54).length = 64 ∧ (Mac.mask k 92).length = 64 ∧ isB (Mac.mask k 54) ∧ isB (Mac.mask k 92)) := Lib.hid ⟨Mac.mask_len _ _, Mac.mask_len _ _, Mac.mask_isB _ _, Mac.mask_isB _ _⟩
      generalize Mac.mask k 54 = m1 at HSUM HML HG1
      generalize Mac.mask k 92 = m2 at HSUM HML HG2
      generalize Mac.full k = fl at HKC HFB HG1 HG2
      clear hown hp hjg HFL hgk2 hgk3 hgk0
      have HBY := Lib.hid hby
      have hwk := hby.size
      clear hby
      go_wp2_with fail
      go_loopg [6, 7, 8] 64 (fun g s6 s7 s8 wx => ∃ (i : Nat) (A6 : Option Addr) (c6 : Nat) (A7 : Option Addr) (c7 : Nat), i + g = 64 ∧ s8 = .int .i64 i ∧ s6 = .slice A6 i c6 ∧ s7 = .slice A7 i c7 ∧ Two wx wk.heap.size 5 (.slice A6 i c6) i (bs (m1.take i)) (.slice A7 i c7) i (bs (m2.take i)) ∧ Below wk.heap.size wk wx)
      case atStart => exact ⟨0, none, 0, none, 0, by omega, rfl, rfl, rfl, ⟨World.ownsRow_nil _ _ _ _, World.ownsRow_nil _ _ _ _, Or.inl rfl⟩, Below.refl _ _⟩
      case round =>
        obtain ⟨i, A6, c6, A7, c7, hig, rfl, rfl, rfl, H2, hbz⟩ := hrel
        have hbz' := hbz.size
        have HT2 := Lib.hid H2
        clear H2
        cases gk with
        | zero =>
          obtain rfl : i = 64 := by omega
          have HT3 : Hid (Two wr wk.heap.size 5 (.slice A6 64 c6) 64 (bs m1) (.slice A7 64 c7) 64 (bs m2)) := Lib.hid (by
            have h := HT2.out
            rwa [List.take_of_length_le (by rw [HML.out.1]; exact Nat.le_refl _), List.take_of_length_le (by rw [HML.out.2.1]; exact Nat.le_refl _)] at h)
          have HBZ := Lib.hid (bel_then HBY.out hbz)
          clear HT2 HG1 HG2 HKC HFB
          go_wp2_with (at_builtin; refine wpList_app _ rfl (.tmp 44) (.tmp 45) 27 rfl wk (by exact hbz) 5 (.int .u8 0) 1 1 Tryd.underlying27 pad_info8 rfl (by decide) (.slice A6 64 c6) 64 (bs m1) rfl (by exact HT3.out.fst) B m d (bs b) rfl (by exact HBR.out.below HBZ.out) (one_bs _) (by unfold maxLen; omega) (by omega) ?_; intro A4 c4 w4 hown4 hb4 hg4 hat4)
          have T4 := HT3.out.app hown4 hg4 hat4
          rw [← bs_append] at hown4
          have hbw4 := bel_into HBY.out hwk hb4
          refine (rsum_spec A4 (64 + m) c4 (m1 ++ b) w4 (HT.out.below hbw4) (Rd.of_own hown4) (Mac.isB_app HML.out.2.2.1 HKB.out.2) (by omega)).mono ?_
          rintro e w5 ⟨A5, c5, rfl, hown5, hb5⟩
          have HO7 := Lib.hid (T4.below hb5).snd
          have R5 := Lib.hid (Rd.of_own hown5)
          have hbk5 := hb4.trans (hb5.mono hb4.size)
          have hin : isB (Sha.sum (m1 ++ b)) := Sha.sum_isB _
          generalize Sha.sum (m1 ++ b) = inn at R5 HSUM hin
          have HIN := Lib.hid hin
          clear hin hown4 hown5 T4 hg4 hat4 hb4 hb5 hbw4 HT3 HBZ
          go_wp2_with (at_builtin; refine wpList_app _ rfl (.tmp 43) (.tmp 47) 27 rfl wk (by exact hbk5) 5 (.int .u8 0) 1 1 Tryd.underlying27 pad_info8 rfl (by decide) (.slice A7 64 c7) 64 (bs m2) rfl (by exact HO7.out) A5 32 c5 (bs inn) rfl (by exact R5.out) (one_bs _) (by unfold maxLen; omega) (by omega) ?_; intro A8 c8 w8 hown8 hb8 hg8 hat8)
          rw [← bs_append] at hown8
          have hbw8 := bel_into HBY.out hwk hb8
          refine (rsum_spec A8 (64 + 32) c8 (m2 ++ inn) w8 (HT.out.below hbw8) (Rd.of_own hown8) (Mac.isB_app HML.out.2.2.2 HIN.out) (by omega)).mono ?_
          rintro e w9 ⟨A9, c9, rfl, hown9, hb9⟩
          have hbw9 := bel_then hbw8 hb9
          have HO9 := Lib.hid (own_weaken' hown9 hbw8.size)
          clear hown8 hown9 hb9 hg8 hat8
          go_wp2_with fail
          go_ret
          exact ⟨A9, c9, rfl, by rw [HSUM.out]; exact HO9.out, hbw9⟩
        | succ g =>
          have hi : i < 64 := by omega
          have hiz : (i : Int) < 64 := by omega
          have hc := HKC.out wr hbz i hi
          have hs1 := HG1.out i hi
          have hs2 := HG2.out i hi
          have HS1 := Lib.hid hs1
          have HS2 := Lib.hid hs2
          have HKI : Hid (∀ wx, Below wk.heap.size wk wx → wx.cell? ⟨gk5, i, none⟩ = some (.int .u8 (fl.getD i 0))) := Lib.hid fun wx hb => HKC.out wx hb i hi
          clear hs1 hs2
          generalize fl.getD i 0 = x at hc HS1 HS2 HKI
          obtain ⟨v1, hv1⟩ : ∃ v, Go.bits .xor .u8 x 54 = v := ⟨_, rfl⟩
          obtain ⟨v2, hv2⟩ : ∃ v, Go.bits .xor .u8 x 92 = v := ⟨_, rfl⟩
          rw [hv1] at HS1
          rw [hv2] at HS2
          have hgk : gk5 < wr.heap.size := by omega
          go_wp2_with (first | (at_builtin; refine wpList_app _ rfl (.tmp 27) (.tmp 33) 27 rfl wk (by exact hbz.alloc hbz' _) 5 (.int .u8 0) 1 1 Tryd.underlying27 pad_info8 rfl (by decide) (.slice A6 i c6) i (bs (m1.take i)) rfl (by exact HT2.out.fst.alloc _) (some ⟨_, 0, none⟩) 1 1 [.int .u8 v1] rfl (by exact rd_one _ _ _) (one_u8 _) (by unfold maxLen; omega) (by omega) ?_; intro A4 c4 w4 hown4 hb4 hg4 hat4; have hc4 := HKI.out w4 hb4; have HT4 := Lib.hid ((HT2.out.below ((Below.refl _ _).alloc (Nat.le_refl _) _)).app hown4 hg4 hat4); have hgk4 : gk5 < w4.heap.size := Nat.lt_of_lt_of_le hgk1 hb4.size; clear hown4 hg4 hat4) | (at_builtin; refine wpList_app _ rfl (.tmp 35) (.tmp 41) 27 rfl wk (by exact hb4.alloc hb4.size _) 5 (.int .u8 0) 1 1 Tryd.underlying27 pad_info8 rfl (by decide) (.slice A7 i c7) i (bs (m2.take i)) rfl (by exact HT4.out.snd.alloc _) (some ⟨_, 0, none⟩) 1 1 [.int .u8 v2] rfl (by exact rd_one _ _ _) (one_u8 _) (by unfold maxLen; omega) (by omega) ?_; intro A8 c8 w8 hown8 hb8 hg8 hat8))
          have HT8 := Lib.hid ((HT4.out.swap.below ((Below.refl _ _).alloc (Nat.le_refl _) _)).app hown8 hg8 hat8).swap
          clear hown8 hg8 hat8
          go_roundg g
          case measure => omega
          case rel => exact ⟨i + 1, A4, c4, A8, c8, by omega, by go_num, rfl, rfl, by rw [HS1.out, HS2.out, bs_append, bs_append]; exact HT8.out, hb8⟩
    | succ g =>
      have hpz : (p : Int) < 64 := by omega
      have HO := Lib.hid hown
      have HP := Lib.hid hp
      have hpb : p < 64 := by omega
      have hby' := hby.size
      clear hown hp
      go_wp2_with (at_builtin; refine wpList_app _ rfl (.tmp 20) (.tmp 21) 27 rfl w (by exact hby.alloc hby' _) 5 (.int .u8 0) 1 1 Tryd.underlying27 pad_info8 rfl (by decide) _ p (bs (Mac.blk k ++ List.replicate j 0)) rfl (by exact HO.out.alloc _) (some ⟨_, 0, none⟩) 1 1 [.int .u8 0] rfl (by exact rd_one _ _ _) (one_u8 _) (by unfold maxLen; omega) (by omega) ?_; intro A3 c3 w3 hown3 hb3 hg3 hat3)
      go_roundg g
      case measure => omega
      case rel => exact ⟨j + 1, p + 1, A3, c3, by omega, by have := HP.out; omega, rfl, by rw [bs_one, ← bs_append, List.append_assoc, ← List.replicate_succ'] at hown3; exact hown3, hb3⟩
end Go.Proofs.YtpidpbjbgjkaaaaDoor
