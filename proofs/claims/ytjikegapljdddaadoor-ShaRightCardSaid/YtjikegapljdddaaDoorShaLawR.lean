/- The walks of ShaRight and ShaSizes. -/
import Derived.Test.YtjikegapljdddaaDoorShaAw
import Derived.Test.YtjikegapljdddaaDoorShaRef2
namespace Go.Proofs.YtjikegapljdddaaDoor
open Go.RowKit
set_option linter.unusedVariables false
set_option maxHeartbeats 2000000 in
theorem sharight_walk (A : Option Addr) (n c : Nat) (l : List Int) (k : Int) (w : World) (hT : Tabs w) (hK : TabK w) (hR : Rd w 1 A n (bs l)) (hB : isB l) (hnc : n ≤ c) (hn : c ≤ 9223372036854775807) :
    Calls Tryd.prog 4 #[.slice A n c, .int .i64 k] w fun e w' => e = .returned (.bool true) ∧ Below w.heap.size w w' := by
  obtain ⟨m, hmin0, hm1, hm2, HMIN⟩ := min_named n 700
  have hmin : (if (700 : Int) < (n : Int) then (700 : Int) else (n : Int)) = (m : Int) := hmin0
  clear hmin0
  have HA := sha_awake w hT
  have HR := Lib.hid (hR.btake hm1)
  have HB := Lib.hid (hB.take m)
  have HT := Lib.hid hT
  have HK := Lib.hid hK
  have hmc : (m : Int) ≤ (c : Int) := by omega
  have hm0 : (0 : Int) ≤ (m : Int) := by omega
  clear hR hB hT hK
  generalize l.take m = lm at HR HB
  go_enter Tryd.func4, Tryd.ntmps4
  go_wp2_with fail
  refine HA.mono ?_
  rintro e w1 ⟨rfl, hb1⟩
  clear HA
  go_wp2_with fail
  refine (sum_spec A m c lm w1 (HT.out.below hb1) (HR.out.below hb1) HB.out (by omega)).mono ?_
  rintro e w2 ⟨A2, c2, rfl, hown2, hb2⟩
  have hbw2 := bel_then hb1 hb2
  have R2 := Lib.hid (Rd.of_own hown2)
  clear hown2 hb1 hb2
  go_wp2_with fail
  refine (rsum_spec A m c lm w2 (HK.out.below hbw2) (HR.out.below hbw2) HB.out (by omega)).mono ?_
  rintro e w3 ⟨A3, c3, rfl, hown3, hb3⟩
  have hbw3 := bel_then hbw2 hb3
  have R3 := Lib.hid (Rd.of_own hown3)
  have R2' := Lib.hid (R2.out.below hb3)
  clear hown3 hbw2 hb3 R2
  go_wp2_with fail
  refine (ref_same A2 A3 32 c2 32 c3 _ _ w3 R2'.out R3.out (Sha.sum_isB lm) (Sha.sum_isB lm) (by omega)).mono ?_
  rintro e w4 ⟨rfl, q, rfl⟩
  have hbw4 := Below.drewN hbw3 q
  have hself : (Sha.sum lm == Sha.sum lm) = true := by simp
  rw [hself]
  clear hself hbw3 R3 R2'
  go_wp2_with fail
  refine (bits_spec A m c lm k (w3.drewN q) (HT.out.below hbw4) (HR.out.below hbw4) HB.out (by omega)).mono ?_
  rintro e w5 ⟨rfl, hb5⟩
  have hbw5 := bel_then hbw4 hb5
  clear hbw4 hb5
  go_wp2_with fail
  refine (rbits_spec A m c lm k w5 (HK.out.below hbw5) (HR.out.below hbw5) HB.out (by omega)).mono ?_
  rintro e w6 ⟨rfl, hb6⟩
  have hbw6 := bel_then hbw5 hb6
  clear hbw5 hb6
  go_wp2_with fail
  go_ret
  exact ⟨rfl, hbw6⟩
set_option maxHeartbeats 2000000 in
theorem shasizes_walk (n x : Int) (w : World) (hT : Tabs w) (hK : TabK w) (hn0 : 0 ≤ n) (hn1 : n ≤ 65535) (hx0 : 0 ≤ x) (hx1 : x ≤ 255) :
    Calls Tryd.prog 3 #[.int .u16 n, .int .u8 x] w fun e w' => e = .returned (.bool true) ∧ Below w.heap.size w w' := by
  have HA := sha_awake w hT
  have HT := Lib.hid hT
  have HK := Lib.hid hK
  obtain ⟨m, hm, hmb⟩ : ∃ m : Nat, n % 300 = (m : Int) ∧ m < 300 := ⟨(n % 300).toNat, by omega, by omega⟩
  clear hT hK
  go_enter Tryd.func3, Tryd.ntmps3
  go_wp2_with fail
  refine HA.mono ?_
  rintro e w1 ⟨rfl, hb1⟩
  clear HA
  go_wp2_with (at_make; refine wpList_made rfl (.tmp 11) (.tmp 11) 24 rfl 5 (.int .u8 0) 1 Tryd.underlying24 pad_info8 rfl m (m : Int) rfl (by first | rfl | exact congrArg _ hm) (by first | rfl | exact congrArg _ hm) (by omega) (by omega) ?_)
  obtain ⟨w2, hw2⟩ : ∃ w2, w2 = w1.alloc (.cells (Array.replicate m (Value.int .u8 0)) 5) := ⟨_, rfl⟩
  have B2 : BlkB w2 w1.heap.size 5 (List.replicate 0 x ++ List.replicate (m - 0) 0) := by
    rw [hw2]
    have := heap_alloc_new w1 (.cells (Array.replicate m (Value.int .u8 0)) 5)
    show _ = _
    rw [this, Nat.sub_zero, List.replicate_zero, List.nil_append, bs, List.map_replicate, List.toArray_replicate]
  have hb2 : Below w.heap.size w w2 := by rw [hw2]; exact hb1.alloc hb1.size _
  have hsz1 := hb1.size
  rw [← hw2]
  clear hw2 hb1 hm
  go_loopg [6] m (fun g s6 wx => ∃ i : Nat, i + g = m ∧ s6 = .int .i64 i ∧ Below w.heap.size w wx ∧ BlkB wx w1.heap.size 5 (List.replicate i x ++ List.replicate (m - i) 0))
  case atStart => exact ⟨0, by omega, rfl, hb2, B2⟩
  case round =>
    obtain ⟨i, hig, rfl, hbx, Bx⟩ := hrel
    clear hb2 B2
    cases gk with
    | zero =>
      obtain rfl : i = m := by omega
      have HB : Hid (isB (List.replicate i x)) := Lib.hid fun y hy => by have := List.eq_of_mem_replicate hy; omega
      have Bz := Bx.fit (show _ = List.replicate i x by simp)
      have hR0 := Bz.rd 0 i (by simp)
      rw [List.drop_zero, List.take_of_length_le (by simp)] at hR0
      have HR := Lib.hid hR0
      clear Bx Bz hR0
      generalize List.replicate i x = lm at HR HB
      go_wp2_with fail
      refine (sum_spec _ i i lm wr (HT.out.below hbx) HR.out HB.out (by omega)).mono ?_
      rintro e w3 ⟨A2, c2, rfl, hown2, hb3⟩
      have hbw2 := bel_then hbx hb3
      have R2 := Lib.hid (Rd.of_own hown2)
      have HR3 := Lib.hid (HR.out.below hb3)
      clear hown2 hbx hb3 HR
      go_wp2_with fail
      refine (rsum_spec _ i i lm w3 (HK.out.below hbw2) HR3.out HB.out (by omega)).mono ?_
      rintro e w4 ⟨A3, c3, rfl, hown3, hb4⟩
      have hbw3 := bel_then hbw2 hb4
      have R3 := Lib.hid (Rd.of_own hown3)
      have R2' := Lib.hid (R2.out.below hb4)
      clear hown3 hbw2 hb4 R2 HR3
      go_wp2_with fail
      refine (ref_same A2 A3 32 c2 32 c3 _ _ w4 R2'.out R3.out (Sha.sum_isB lm) (Sha.sum_isB lm) (by omega)).mono ?_
      rintro e w5 ⟨rfl, q, rfl⟩
      have hbw4 := Below.drewN hbw3 q
      have hself : (Sha.sum lm == Sha.sum lm) = true := by simp
      rw [hself]
      clear hself hbw3 R3 R2'
      go_wp2_with fail
      go_ret
      exact ⟨rfl, hbw4⟩
    | succ g =>
      have hi : i < m := by omega
      have hiz : (i : Int) < (m : Int) := by omega
      have hc := Bx.cell (i := i) (by simp; omega)
      have hz := Bx.unfrozen i
      have hlt := Bx.lt
      generalize (List.replicate i x ++ List.replicate (m - i) 0).getD i 0 = old at hc
      have HB := Lib.hid Bx
      clear Bx
      go_wp2_with fail
      go_roundg g
      case measure => omega
      case rel => exact ⟨i + 1, by omega, by go_num, hbx.setCell hsz1 _, (HB.out.put i x).fit (by rw [Sha.push_set _ (by simp) (by omega), ← List.replicate_succ', Nat.sub_sub])⟩
end Go.Proofs.YtjikegapljdddaaDoor
