/- The walks of the laws over package csum. -/
import Derived.Test.YtodcbejdlnikgaaCsumRef
import Derived.Test.YtodcbejdlnikgaaOwn
import Derived.Deep.QuietTactic
import Derived.BigQuiet
namespace Go.Proofs.Ytodcbejdlnikgaa
open Go.RowKit
set_option linter.unusedVariables false
attribute [local go_sem] u64_low16 u32_low16 u16_not u16_signed u64_of_u16
theorem rd_lit (w : World) (l : List Int) (hl : l.length ≤ maxLen) : Rd (w.alloc (.cells (bs l).toArray 5)) 1 (some ⟨w.heap.size, 0, none⟩) l.length (bs l) := by
  have h := World.ownsRow_lit (base := 0) (e := 5) (size := 1) w (bs l).toArray l.length (Nat.zero_le _) hl (by simp [bs])
  exact Rd.of_own (by simpa using h)
set_option maxHeartbeats 1000000 in
theorem csum_awake (w : World) :
    Calls Try.prog 13 #[] w fun e w' => e = .returned (.bool true) ∧ Below w.heap.size w w' := by
  have h1 : (65535 - Csum.sum [0, 1, 242, 3] == 3579) = true := by kernel_rfl
  have h2 : (Csum.fold (65535 + 1) == 1) = true := by kernel_rfl
  have h3 : (65535 - Csum.fold (65535 - 3579 + (65535 - 1) + 2) == 3578) = true := by kernel_rfl
  have hr := rd_lit w [0, 1, 242, 3] (by simp [maxLen])
  have hb : isB [0, 1, 242, 3] := by intro x hx; simp at hx; omega
  go_enter Try.func13, Try.ntmps13
  go_wp2_with (first | (go_at_call 14; refine (csum_of _ _ _ _ _ hr hb (by simp)).mono ?_; rintro e w' ⟨rfl, rfl⟩) | (go_at_call 17; refine (csum_join _ _ _ (by omega) (by omega) (by omega) (by omega)).mono ?_; rintro e w' ⟨rfl, rfl⟩) | (go_at_call 15; refine (csum_mend _ _ _ _ (by omega) (by omega) (by omega) (by omega) (by omega) (by omega)).mono ?_; rintro e w' ⟨rfl, rfl⟩))
  go_ret
  exact ⟨rfl, (Below.refl _ _).alloc (Nat.le_refl _) _⟩
set_option maxHeartbeats 1000000 in
theorem csum_right (A : Option Addr) (n c : Nat) (l : List Int) (x y z src dst proto size : Int) (w : World) (hR : Rd w 1 A n (bs l)) (hB : isB l) (hn : n ≤ c) (hc : c ≤ 9223372036854775807)
    (hx0 : 0 ≤ x) (hx1 : x ≤ 65535) (hy0 : 0 ≤ y) (hy1 : y ≤ 65535) (hz0 : 0 ≤ z) (hz1 : z ≤ 65535) (hs0 : 0 ≤ src) (hs1 : src ≤ 4294967295) (hd0 : 0 ≤ dst) (hd1 : dst ≤ 4294967295) :
    Calls Try.prog 7 #[.slice A n c, .int .u16 x, .int .u16 y, .int .u16 z, .int .u32 src, .int .u32 dst, .int .i64 proto, .int .i64 size] w fun e w' => e = .returned (.bool true) ∧ Below w.heap.size w w' := by
  obtain ⟨m, hmin, hm1, hm2, _⟩ := min_named n 3000
  have hmin' : (if (3000 : Int) < (n : Int) then (3000 : Int) else (n : Int)) = (m : Int) := hmin
  clear hmin
  have hR' := hR.btake hm1
  have hB' := hB.take m
  clear hR hB
  go_enter Try.func7, Try.ntmps7
  go_wp2_with (go_at_call 13; refine (csum_awake _).mono ?_; rintro e w1 ⟨rfl, hbel1⟩)
  have hR1 := hR'.below hbel1
  go_wp2_with (first | (go_at_call 16; refine (csum_sum _ _ _ _ _ hR1 hB' (by omega)).mono ?_; rintro e w' ⟨rfl, rfl⟩) | (go_at_call 18; refine (rcsum_sum _ _ _ _ _ hR1 hB' (by omega)).mono ?_; rintro e w2 ⟨rfl, hbel2⟩))
  have hR2 := hR1.below hbel2
  go_wp2_with (first | (go_at_call 14; refine (csum_of _ _ _ _ _ hR2 hB' (by omega)).mono ?_; rintro e w' ⟨rfl, rfl⟩) | (go_at_call 19; refine (rcsum_of _ _ _ _ _ hR2 hB' (by omega)).mono ?_; rintro e w3 ⟨rfl, hbel3⟩) | (go_at_call 17; refine (csum_join _ _ _ (by omega) (by omega) (by omega) (by omega)).mono ?_; rintro e w' ⟨rfl, rfl⟩) | (go_at_call 20; refine (rcsum_join _ _ _ (by omega) (by omega) (by omega) (by omega)).mono ?_; rintro e w' ⟨rfl, rfl⟩) | (go_at_call 15; refine (csum_mend _ _ _ _ (by omega) (by omega) (by omega) (by omega) (by omega) (by omega)).mono ?_; rintro e w' ⟨rfl, rfl⟩) | (go_at_call 21; refine (rcsum_mend _ _ _ _ (by omega) (by omega) (by omega) (by omega) (by omega) (by omega)).mono ?_; rintro e w' ⟨rfl, rfl⟩) | (go_at_call 22; refine (csum_pseudo _ _ _ _ _ (by omega) (by omega) (by omega) (by omega)).mono ?_; rintro e w' ⟨rfl, rfl⟩) | (go_at_call 23; refine (rcsum_pseudo _ _ _ _ _ (by omega) (by omega) (by omega) (by omega)).mono ?_; rintro e w4 ⟨rfl, hbel4⟩))
  go_ret
  exact ⟨rfl, bel_then (bel_then (bel_then hbel1 hbel2) hbel3) hbel4⟩
end Go.Proofs.Ytodcbejdlnikgaa
