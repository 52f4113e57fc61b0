/- The walks of mac.masked, mac.Sum, mac.Bits. -/
import Derived.Test.YtpidpbjbgjkaaaaDoorMacPlain
import Derived.Test.YtpidpbjbgjkaaaaDoorMacLib
import Derived.Deep.DeepCutAuto
namespace Go.Proofs.YtpidpbjbgjkaaaaDoor
open Go.RowKit
set_option linter.unusedVariables false
theorem own_weaken' {w : World} {base base' : Nat} {e : TypeId} {s n : Nat} {v : Value} {xs : List Value} (h : w.ownsRow base e s v n xs) (hb : base' ≤ base) : w.ownsRow base' e s v n xs := by
  refine ⟨h.1, h.2.imp id ?_⟩
  rintro ⟨g, cap, cur, h1, h2, h3⟩
  exact ⟨g, cap, cur, h1, Nat.le_trans hb h2, h3⟩
theorem splice_zero (l : List Int) (n N : Nat) (h : l.length = n) : splice (bs (List.replicate N 0)) 0 (bs l) = bs (l ++ List.replicate (N - n) 0) := by
  unfold splice bs
  simp [h]
theorem Mac.mask_get (key : List Int) (y : Int) {i : Nat} (hi : i < 64) : (Mac.mask key y).getD i 0 = Go.bits .xor .u8 ((Mac.full key).getD i 0) y := by
  have h := Mac.full_len key
  simp [Mac.mask, h, hi]
set_option maxRecDepth 4000 in
set_option maxHeartbeats 4000000 in
theorem masked_spec (A : Option Addr) (n c : Nat) (l : List Int) (y : Int) (w : World) (hT : Tabs w) (hR : Rd w 1 A n (bs l)) (hB : isB l) (hn : n ≤ 4294967295) :
    Calls Tryd.prog 74 #[.slice A n c, .int .u8 y] w fun e w' => ∃ g, e = .returned (.slice (some ⟨g, 0, none⟩) 64 64) ∧ w.heap.size ≤ g ∧ BlkB w' g 5 (Mac.mask l y) ∧ Below w.heap.size w w' := by
  obtain ⟨W, hW⟩ : ∃ W, W = w.alloc (.cells #[.int .u8 0, .int .u8 0, .int .u8 0, .int .u8 0, .int .u8 0, .int .u8 0, .int .u8 0, .int .u8 0, .int .u8 0, .int .u8 0, .int .u8 0, .int .u8 0, .int .u8 0, .int .u8 0, .int .u8 0, .int .u8 0, .int .u8 0, .int .u8 0, .int .u8 0, .int .u8 0, .int .u8 0, .int .u8 0, .int .u8 0, .int .u8 0, .int .u8 0, .int .u8 0, .int .u8 0, .int .u8 0, .int .u8 0, .int .u8 0, .int .u8 0, .int .u8 0, .int .u8 0, .int .u8 0, .int .u8 0, .int .u8 0, .int .u8 0, .int .u8 0, .int .u8 0, .int .u8 0, .int .u8 0, .int .u8 0, .int .u8 0, .int .u8 0, .int .u8 0, .int .u8 0, .int .u8 0, .int .u8 0, .int .u8 0, .int .u8 0, .int .u8 0, .int .u8 0, .int .u8 0, .int .u8 0, .int .u8 0, .int .u8 0, .int .u8 0, .int .u8 0, .int .u8 0, .int .u8 0, .int .u8 0, .int .u8 0, .int .u8 0, .int .u8 0] 5) := ⟨_, rfl⟩
  have hbW : Below w.heap.size w W := by rw [hW]; exact (Below.refl _ _).alloc (Nat.le_refl _) _
  have B0 : BlkB W w.heap.size 5 (List.replicate 64 0) := by rw [hW]; exact heap_alloc_new w _
  have hl := hR.blen
  have HRW := Lib.hid (hR.below hbW)
  have HTW := Lib.hid (hT.below hbW)
  have HB := Lib.hid hB
  have HL := Lib.hid hl
  clear hR hT hB hl
  have hmk : ∀ w : World, (Instr.makeSlice 27 (.int .i64 64) (.int .i64 64)).run Tryd.prog w = .ok (.slice (some ⟨w.heap.size, 0, none⟩) 64 64) (w.alloc (.cells #[.int .u8 0, .int .u8 0, .int .u8 0, .int .u8 0, .int .u8 0, .int .u8 0, .int .u8 0, .int .u8 0, .int .u8 0, .int .u8 0, .int .u8 0, .int .u8 0, .int .u8 0, .int .u8 0, .int .u8 0, .int .u8 0, .int .u8 0, .int .u8 0, .int .u8 0, .int .u8 0, .int .u8 0, .int .u8 0, .int .u8 0, .int .u8 0, .int .u8 0, .int .u8 0, .int .u8 0, .int .u8 0, .int .u8 0, .int .u8 0, .int .u8 0, .int .u8 0, .int .u8 0, .int .u8 0, .int .u8 0, .int .u8 0, .int .u8 0, .int .u8 0, .int .u8 0, .int .u8 0, .int .u8 0, .int .u8 0, .int .u8 0, .int .u8 0, .int .u8 0, .int .u8 0, .int .u8 0, .int .u8 0, .int .u8 0, .int .u8 0, .int .u8 0, .int .u8 0, .int .u8 0, .int .u8 0, .int .u8 0, .int .u8 0, .int .u8 0, .int .u8 0, .int .u8 0, .int .u8 0, .int .u8 0, .int .u8 0, .int .u8 0, .int .u8 0] 5)) := fun _ => by kernel_rfl
  go_enter Tryd.func74, Tryd.ntmps74
  go_upto_region 2 with (fail)
  rw [← hW]
  clear hW
  go_upto_if 10 with (fail)
  go_cut [0] (fun s0 wx => ∃ (A' : Option Addr) (n' c' : Nat), s0 = .slice A' n' c' ∧ n' ≤ 64 ∧ Rd wx 1 A' n' (bs (Mac.blk l)) ∧ BlkB wx w.heap.size 5 (List.replicate 64 0) ∧ Below w.heap.size w wx)
  case first =>
    by_cases h64 : 64 < n
    · have hz : (64 : Int) < (n : Int) := by omega
      have HBL : Hid (Sha.sum l = Mac.blk l) := Lib.hid (by unfold Mac.blk; rw [if_pos (by rw [HL.out]; exact h64)])
      go_wp2_with fail
      refine (sum_spec A n c l W HTW.out HRW.out HB.out hn).mono ?_
      rintro e w1 ⟨A1, c1, rfl, hown, hb1⟩
      go_wp2_with fail
      go_meet
      exact ⟨A1, 32, c1, rfl, by omega, by rw [← HBL.out]; exact Rd.of_own hown, B0.below hb1, bel_then hbW hb1⟩
    · have HBL : Hid (l = Mac.blk l) := Lib.hid (by unfold Mac.blk; rw [if_neg (by rw [HL.out]; exact h64)])
      have hz : ¬ (64 : Int) < (n : Int) := by omega
      go_wp2_with fail
      go_meet
      exact ⟨A, n, c, rfl, by omega, by rw [← HBL.out]; exact HRW.out, B0, hbW⟩
  case rest =>
  obtain ⟨A', n', c', rfl, hn', hR', B1, hb1⟩ := hcut
  clear B0 hbW HRW HTW
  have HFL : Hid (Mac.blk l ++ List.replicate (64 - n') 0 = Mac.full l) := Lib.hid (by unfold Mac.full; rw [hR'.blen])
  have hbl := hR'.blen
  have HML : Hid ((Mac.mask l y).length = 64 ∧ (Mac.full l).length = 64) := Lib.hid ⟨Mac.mask_len l y, Mac.full_len l⟩
  have HMG : Hid (∀ i, i < 64 → (Mac.mask l y).getD i 0 = Go.bits .xor .u8 ((Mac.full l).getD i 0) y) := Lib.hid fun i hi => Mac.mask_get l y hi
  have HFB : Hid (isB (Mac.full l)) := Lib.hid (Mac.full_isB HB.out)
  generalize Mac.blk l = bl at hR' HFL hbl
  generalize Mac.full l = fl at HFL HML HMG HFB
  obtain ⟨ml, hml⟩ : ∃ ml, ml = Mac.mask l y := ⟨_, rfl⟩
  rw [← hml] at HML HMG
  have HMM := Lib.hid hml
  clear hml
  have HPOS : Hid (0 < (bs bl).length → (some ⟨w.heap.size, 0, none⟩ : Option Addr) = some ⟨w.heap.size, 0, none⟩ ∧ ∃ ad, A' = some ad ∧ ∀ j v, (bs bl)[j]? = some v → wc.cell? (ad.add j) = some v) := Lib.hid fun h0 => by
    rw [bs_len, hbl] at h0
    obtain ⟨b, off, e, hb, hc⟩ := hR'.2 h0
    refine ⟨rfl, ⟨b, off, none⟩, e, fun j v hv => ?_⟩
    rw [add_off]
    exact hc j v hv
  have HL1 : Hid ((bs bl).length = Nat.min n' 64) := Lib.hid (by rw [bs_len, hbl]; exact (Nat.min_eq_left hn').symm)
  have HL2 : Hid (0 + (bs bl).length ≤ (bs (List.replicate 64 0)).length) := Lib.hid (by rw [bs_len, bs_len, hbl, List.length_replicate]; omega)
  have HS : Hid (∀ w2 : World, Hid (w2.heap[w.heap.size]? = some (.cells (splice (bs (List.replicate 64 0)) 0 (bs bl)).toArray 5 (0, 0))) → BlkB w2 w.heap.size 5 fl) := Lib.hid fun w2 h => by
    refine BlkB.fit (h.out.trans ?_) HFL.out
    rw [splice_zero bl n' 64 hbl]
  have BB1 := Lib.hid B1
  have HBB := Lib.hid hb1
  clear hR' hbl B1 hb1
  go_wp2_with (first | (refine wpList_copy_splice rfl (.tmp 13) (.tmp 14) 27 27 rfl 5 Tryd.underlying27 (by kernel_rfl) _ A' 64 64 n' c' rfl rfl w.heap.size 0 (bs (List.replicate 64 0)) 5 BB1.out (bs bl) HL1.out HPOS.out HL2.out (one_bs bl) w.heap.size w HBB.out (Nat.le_refl _) ?_; intro w2 HG2 hb2; have B2 := HS.out w2 HG2))
  clear HG2
  go_loopg [18] 64 (fun g s18 wx => ∃ i : Nat, i + g = 64 ∧ s18 = .int .i64 i ∧ Below w.heap.size w wx ∧ BlkB wx w.heap.size 5 (ml.take i ++ fl.drop i))
  case atStart => exact ⟨0, by omega, rfl, hb2, B2.fit (by simp)⟩
  case round =>
    obtain ⟨i, hig, rfl, hbx, Bx⟩ := hrel
    clear hb2 B2
    cases gk with
    | zero =>
      obtain rfl : i = 64 := by omega
      have HBZ := Lib.hid (Bx.fit (show _ = ml by rw [List.take_of_length_le (by rw [HML.out.1]; exact Nat.le_refl _), List.drop_of_length_le (by rw [HML.out.2]; exact Nat.le_refl _), List.append_nil]))
      clear Bx
      go_wp2_with fail
      go_ret
      exact ⟨_, rfl, Nat.le_refl _, by rw [← HMM.out]; exact HBZ.out, hbx⟩
    | succ g =>
      have hi : i < 64 := by omega
      have hiz : (i : Int) < 64 := by omega
      have hlen : ml.length = fl.length := by rw [HML.out.1, HML.out.2]
      have hc := Bx.cell (i := i) (by simp [HML.out.1, HML.out.2]; omega)
      rw [mid_get hlen (by rw [HML.out.1]; exact hi)] at hc
      have HV : Hid (Go.bits .xor .u8 (fl.getD i 0) y = ml.getD i 0) := Lib.hid (HMG.out i hi).symm
      have HSET : Hid ((ml.take i ++ fl.drop i).set i (ml.getD i 0) = ml.take (i + 1) ++ fl.drop (i + 1)) := Lib.hid (mid_set hlen (by rw [HML.out.1]; exact hi))
      have hz := Bx.unfrozen i
      have hlt := Bx.lt
      generalize fl.getD i 0 = x at hc HV
      have HB2 := Lib.hid Bx
      clear Bx hlen
      go_wp2_with fail
      go_roundg g
      case measure => omega
      case rel => exact ⟨i + 1, by omega, by go_num, hbx.setCell (Nat.le_refl _) _, (HB2.out.put i _).fit (by rw [HV.out]; exact HSET.out)⟩
theorem rd_two (w : World) (T : TypeId) (a b : Value) : (w.alloc (.cells #[a, b] T)).cell? ⟨w.heap.size, 0, none⟩ = some a ∧ (w.alloc (.cells #[a, b] T)).cell? ⟨w.heap.size, 1, none⟩ = some b := by
  constructor
  · rw [cell_of_row _ _ 0 _ T (0, 0) (heap_alloc_new w _)]; rfl
  · rw [cell_of_row _ _ 1 _ T (0, 0) (heap_alloc_new w _)]; rfl
set_option maxHeartbeats 4000000 in
theorem msum_spec (A : Option Addr) (n c : Nat) (B : Option Addr) (m d : Nat) (k b : List Int) (w : World) (hT : Tabs w) (hA : Rd w 1 A n (bs k)) (hB : Rd w 1 B m (bs b)) (hk : isB k) (hb : isB b) (hn : n ≤ 4294967295) (hm : m ≤ 4294960000) :
    Calls Tryd.prog 62 #[.slice A n c, .slice B m d] w fun e w' => ∃ A' c', e = .returned (.slice A' 32 c') ∧ w'.ownsRow w.heap.size 5 1 (.slice A' 32 c') 32 (bs (Mac.sum k b)) ∧ Below w.heap.size w w' := by
  have HT := Lib.hid hT
  have HA := Lib.hid hA
  have HB := Lib.hid hB
  have HKB := Lib.hid (And.intro hk hb)
  have HSUM : Hid (Mac.sum k b = Sha.sum (Mac.mask k 92 ++ Sha.sum (Mac.mask k 54 ++ b))) := Lib.hid rfl
  have HML : Hid ((Mac.mask k 54).length = 64 ∧ (Mac.mask k 92).length = 64 ∧ isB (Mac.mask k 54) ∧ isB (Mac.mask k 92)) := Lib.hid ⟨Mac.mask_len _ _, Mac.mask_len _ _, Mac.mask_isB _ _, Mac.mask_isB _ _⟩
  have C1 := fun w' hT hA => masked_spec A n c k 54 w' hT hA hk hn
  have C2 := fun w' hT hA => masked_spec A n c k 92 w' hT hA hk hn
  have HC1 := Lib.hid C1
  have HC2 := Lib.hid C2
  generalize Mac.mask k 54 = m1 at HSUM HML HC1
  generalize Mac.mask k 92 = m2 at HSUM HML HC2
  clear hT hA hB hk hb C1 C2
  go_enter Tryd.func62, Tryd.ntmps62
  go_wp2_with fail
  refine (HC1.out w HT.out HA.out).mono ?_
  rintro e w1 ⟨g1, rfl, hg1, B1, hb1⟩
  have R1 := Lib.hid (B1.rd 0 64 (by rw [HML.out.1]; exact Nat.le_refl _))
  obtain ⟨w2, hw2⟩ : ∃ w2, w2 = w1.alloc (.cells #[.slice (some ⟨g1, 0, none⟩) 64 64, .slice B m d] 27) := ⟨_, rfl⟩
  have hb2 : Below w1.heap.size w1 w2 := by rw [hw2]; exact (Below.refl _ _).alloc (Nat.le_refl _) _
  have hs2 : w1.heap.size < w2.heap.size := by rw [hw2]; simp
  obtain ⟨q0, q1⟩ := rd_two w1 27 (.slice (some ⟨g1, 0, none⟩) 64 64) (.slice B m d)
  rw [← hw2] at q0 q1
  have R1' : Rd w2 1 (some ⟨g1, 0, none⟩) 64 (bs m1) := by
    have := R1.out
    rw [List.drop_zero, List.take_of_length_le (by rw [HML.out.1]; exact Nat.le_refl _)] at this
    exact this.below hb2
  have HC3 := Lib.hid (concat_spec w1.heap.size 2 (some ⟨g1, 0, none⟩) 64 64 B m d m1 b w2 hs2 q0 q1 R1' ((HB.out.below hb1).below hb2) (by omega))
  have hbw2 := bel_then hb1 hb2
  clear R1 R1' B1 q0 q1 hb1 hb2 hs2
  go_wp2_with fail
  rw [← hw2]
  clear hw2
  refine HC3.out.mono ?_
  rintro e w3 ⟨A3, c3, rfl, hown3, hb3⟩
  have hbw3 := bel_then hbw2 hb3
  have R3 := Rd.of_own hown3
  clear HC3 hown3 hb3 hbw2
  go_wp2_with fail
  refine (sum_spec A3 (64 + m) c3 (m1 ++ b) w3 (HT.out.below hbw3) R3 (Mac.isB_app HML.out.2.2.1 HKB.out.2) (by omega)).mono ?_
  rintro e w4 ⟨A4, c4, rfl, hown4, hb4⟩
  have hbw4 := bel_then hbw3 hb4
  have R4 := Lib.hid (Rd.of_own hown4)
  clear R3 hown4 hb4 hbw3
  have hin : isB (Sha.sum (m1 ++ b)) := Sha.sum_isB _
  generalize Sha.sum (m1 ++ b) = inn at R4 HSUM hin
  have HIN := Lib.hid hin
  clear hin
  go_wp2_with fail
  refine (HC2.out w4 (HT.out.below hbw4) (HA.out.below hbw4)).mono ?_
  rintro e w5 ⟨g5, rfl, hg5, B5, hb5⟩
  have hbw5 := bel_then hbw4 hb5
  have R5 := Lib.hid (B5.rd 0 64 (by rw [HML.out.2.1]; exact Nat.le_refl _))
  obtain ⟨w6, hw6⟩ : ∃ w6, w6 = w5.alloc (.cells #[.slice (some ⟨g5, 0, none⟩) 64 64, .slice A4 32 c4] 27) := ⟨_, rfl⟩
  have hb6 : Below w5.heap.size w5 w6 := by rw [hw6]; exact (Below.refl _ _).alloc (Nat.le_refl _) _
  have hs6 : w5.heap.size < w6.heap.size := by rw [hw6]; simp
  obtain ⟨q0, q1⟩ := rd_two w5 27 (.slice (some ⟨g5, 0, none⟩) 64 64) (.slice A4 32 c4)
  rw [← hw6] at q0 q1
  have R5' : Rd w6 1 (some ⟨g5, 0, none⟩) 64 (bs m2) := by
    have := R5.out
    rw [List.drop_zero, List.take_of_length_le (by rw [HML.out.2.1]; exact Nat.le_refl _)] at this
    exact this.below hb6
  have HC7 := Lib.hid (concat_spec w5.heap.size 2 (some ⟨g5, 0, none⟩) 64 64 A4 32 c4 m2 inn w6 hs6 q0 q1 R5' ((R4.out.below hb5).below hb6) (by omega))
  have hbw6 := bel_then hbw5 hb6
  clear R5 R5' B5 q0 q1 hb5 hb6 hs6 hbw4 hbw5
  go_wp2_with fail
  rw [← hw6]
  clear hw6
  refine HC7.out.mono ?_
  rintro e w7 ⟨A7, c7, rfl, hown7, hb7⟩
  have hbw7 := bel_then hbw6 hb7
  have R7 := Rd.of_own hown7
  clear HC7 hown7 hb7 hbw6
  go_wp2_with fail
  refine (sum_spec A7 (64 + 32) c7 (m2 ++ inn) w7 (HT.out.below hbw7) R7 (Mac.isB_app HML.out.2.2.2 HIN.out) (by omega)).mono ?_
  rintro e w8 ⟨A8, c8, rfl, hown8, hb8⟩
  have hbw8 := bel_then hbw7 hb8
  have HO8 := Lib.hid (own_weaken' hown8 hbw7.size)
  clear R7 hown8 hb8 hbw7
  go_wp2_with fail
  go_ret
  exact ⟨A8, c8, rfl, by rw [HSUM.out]; exact HO8.out, hbw8⟩
set_option maxRecDepth 4000 in
set_option maxHeartbeats 4000000 in
theorem mbits_spec (A : Option Addr) (n c : Nat) (B : Option Addr) (p d : Nat) (key b : List Int) (m : Int) (w : World) (hT : Tabs w) (hA : Rd w 1 A n (bs key)) (hBr : Rd w 1 B p (bs b)) (hk : isB key) (hb : isB b) (hn : n ≤ 4294967295) (hp : p ≤ 4294960000) :
    Calls Tryd.prog 52 #[.slice A n c, .slice B p d, .int .i64 m] w fun e w' => e = .returned (.int .u32 (Mac.bits key b m)) ∧ Below w.heap.size w w' := by
  have HC := msum_spec A n c B p d key b w hT hA hBr hk hb hn hp
  have HD : Hid (Mac.bits key b m = if m < 1 ∨ 32 < m then 0 else Sha.wordAt (Mac.sum key b) 0 / 2 ^ (32 - m).toNat) := Lib.hid rfl
  have HS := Lib.hid (Mac.sum_isB key b)
  generalize Mac.bits key b m = v at HD ⊢
  generalize Mac.sum key b = sm at HD HC HS
  clear hT hA hBr hk hb
  go_enter Tryd.func52, Tryd.ntmps52
  by_cases h1 : m < 1
  · go_wp2_with fail
    go_ret
    exact ⟨ret_int (by rw [HD.out, if_pos (Or.inl h1)]), Below.refl _ _⟩
  by_cases h2 : 32 < m
  · go_wp2_with fail
    go_ret
    exact ⟨ret_int (by rw [HD.out, if_pos (Or.inr h2)]), Below.refl _ _⟩
  go_wp2_with fail
  refine HC.mono ?_
  rintro e w1 ⟨A', c', rfl, hown, hb⟩
  have HW : Hid (Sha.wordAt sm 0 = ((sm.getD 0 0 * 256 + sm.getD 1 0) * 256 + sm.getD 2 0) * 256 + sm.getD 3 0) := Lib.hid rfl
  have hR := Rd.of_own hown
  obtain ⟨g, off, rfl, hg, c0⟩ := hR.byte (k := 0) (by omega)
  obtain ⟨g', off', e', hg', c1⟩ := hR.byte (k := 1) (by omega)
  injection e' with e'; injection e' with e1 e2; subst e1; subst e2
  obtain ⟨g', off', e', hg', c2⟩ := hR.byte (k := 2) (by omega)
  injection e' with e'; injection e' with e1 e2; subst e1; subst e2
  obtain ⟨g', off', e', hg', c3⟩ := hR.byte (k := 3) (by omega)
  injection e' with e'; injection e' with e1 e2; subst e1; subst e2
  obtain ⟨p0, q0⟩ := HS.out.getD 0
  obtain ⟨p1, q1⟩ := HS.out.getD 1
  obtain ⟨p2, q2⟩ := HS.out.getD 2
  obtain ⟨p3, q3⟩ := HS.out.getD 3
  generalize sm.getD 0 0 = x0 at HW c0 p0 q0
  generalize sm.getD 1 0 = x1 at HW c1 p1 q1
  generalize sm.getD 2 0 = x2 at HW c2 p2 q2
  generalize sm.getD 3 0 = x3 at HW c3 p3 q3
  generalize Sha.wordAt sm 0 = wd at HW HD
  have hor : Go.bits .or .u32 (Go.bits .or .u32 (Go.bits .or .u32 (x0 * 16777216) (x1 * 65536)) (x2 * 256)) x3 = wd := by
    rw [Sha.word_or p0 q0 p1 q1 p2 q2 p3 q3, HW.out]
  have k0 : IntKind.u32.wrap x0 = x0 := by rw [IntKind.wrap_u32]; omega
  have k1 : IntKind.u32.wrap x1 = x1 := by rw [IntKind.wrap_u32]; omega
  have k2 : IntKind.u32.wrap x2 = x2 := by rw [IntKind.wrap_u32]; omega
  have k3 : IntKind.u32.wrap x3 = x3 := by rw [IntKind.wrap_u32]; omega
  have m0 : IntKind.u32.wrap (x0 * 16777216) = x0 * 16777216 := by rw [IntKind.wrap_u32]; omega
  have m1 : IntKind.u32.wrap (x1 * 65536) = x1 * 65536 := by rw [IntKind.wrap_u32]; omega
  have m2 : IntKind.u32.wrap (x2 * 256) = x2 * 256 := by rw [IntKind.wrap_u32]; omega
  obtain ⟨y, hy⟩ : ∃ y, y = 32 - m := ⟨_, rfl⟩
  have hw : IntKind.i64.wrap (32 - m) = y := by rw [hy]; exact IntWalk.i64_in _ (by omega)
  have y0 : 0 ≤ y := by omega
  have y1 : y ≤ 32 := by omega
  have HY := Lib.hid hy
  have HN : Hid (¬ (m < 1 ∨ 32 < m)) := Lib.hid (by omega)
  rw [Nat.add_zero] at c0
  clear hown hR HS HC hy h1 h2
  go_wp2_with fail
  go_quiet (fail)
  go_wp2_with fail
  go_ret
  exact ⟨ret_int (by rw [HD.out, if_neg HN.out, ← HY.out]), Below.drewN hb _⟩
end Go.Proofs.YtpidpbjbgjkaaaaDoor
