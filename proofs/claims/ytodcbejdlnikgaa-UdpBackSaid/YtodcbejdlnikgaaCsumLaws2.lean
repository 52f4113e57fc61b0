/- The walks of the laws over package csum, on. -/
import Derived.Test.YtodcbejdlnikgaaCsumLaws
namespace Go.Proofs.Ytodcbejdlnikgaa
open Go.RowKit
set_option linter.unusedVariables false
attribute [local go_sem] u64_low16 u32_low16 u16_not u16_signed u64_of_u16
namespace Csum
def mend (a b d : Int) : Int := 65535 - fold (65535 - a + (65535 - b) + d)
theorem mend_bd (a b d : Int) (ha1 : a ≤ 65535) (hb1 : b ≤ 65535) (hd0 : 0 ≤ d) : 0 ≤ mend a b d ∧ mend a b d ≤ 65535 := by
  have := fold_bd (n := 65535 - a + (65535 - b) + d) (by omega)
  unfold mend; omega
theorem mend_back (a o n : Int) (ha0 : 0 ≤ a) (ha1 : a ≤ 65535) (ho0 : 0 ≤ o) (ho1 : o ≤ 65535) (hn0 : 0 ≤ n) (hn1 : n ≤ 65535) :
    mend (mend a o n) n o = if a = 65535 then 0 else a := by
  unfold mend
  have e : 65535 - (65535 - fold (65535 - a + (65535 - o) + n)) + (65535 - n) + o = fold (65535 - a + (65535 - o) + n) + (65535 - n + o) := by omega
  rw [e, fold_fold (by omega) (by omega)]
  have e2 : 65535 - a + (65535 - o) + n + (65535 - n + o) = 196605 - a := by omega
  rw [e2]; unfold fold; split <;> split <;> omega
end Csum
theorem csum_mendM (a b d : Int) (w : World) (ha0 : 0 ≤ a) (ha1 : a ≤ 65535) (hb0 : 0 ≤ b) (hb1 : b ≤ 65535) (hd0 : 0 ≤ d) (hd1 : d ≤ 65535) :
    Calls Try.prog 15 #[.int .u16 a, .int .u16 b, .int .u16 d] w fun e w' => e = .returned (.int .u16 (Csum.mend a b d)) ∧ w = w' :=
  csum_mend a b d w ha0 ha1 hb0 hb1 hd0 hd1
set_option maxHeartbeats 1000000 in
theorem csum_joins (a b c o n : Int) (w : World) (ha0 : 0 ≤ a) (ha1 : a ≤ 65535) (hb0 : 0 ≤ b) (hb1 : b ≤ 65535) (hc0 : 0 ≤ c) (hc1 : c ≤ 65535)
    (ho0 : 0 ≤ o) (ho1 : o ≤ 65535) (hn0 : 0 ≤ n) (hn1 : n ≤ 65535) :
    Calls Try.prog 6 #[.int .u16 a, .int .u16 b, .int .u16 c, .int .u16 o, .int .u16 n] w fun e w' => e = .returned (.bool true) ∧ Below w.heap.size w w' := by
  have f1 := Csum.fold_bd (n := a + b) (by omega)
  have f2 := Csum.fold_bd (n := b + c) (by omega)
  obtain ⟨f10, f11⟩ := f1
  obtain ⟨f20, f21⟩ := f2
  have h1 : (Csum.fold (a + b) != Csum.fold (b + a)) = false := by rw [show b + a = a + b by omega]; simp
  have h2 : (Csum.fold (a + Csum.fold (b + c)) != Csum.fold (Csum.fold (a + b) + c)) = false := by
    rw [show a + Csum.fold (b + c) = Csum.fold (b + c) + a by omega, Csum.fold_fold (by omega) (by omega), Csum.fold_fold (by omega) (by omega), show b + c + a = a + b + c by omega]; simp
  have m1 := Csum.mend_bd a o n ha1 ho1 hn0
  have m2 := Csum.mend_bd (Csum.mend a o n) n o m1.2 hn1 ho0
  obtain ⟨m10, m11⟩ := m1
  obtain ⟨m20, m21⟩ := m2
  have mb := Csum.mend_back a o n ha0 ha1 ho0 ho1 hn0 hn1
  by_cases h : a = 65535
  · rw [if_pos h] at mb
    have h3 : (Csum.fold (Csum.mend (Csum.mend a o n) n o + (65535 - a % 65536)) == 65535) = false := by rw [mb, h]; rfl
    have h4 : (Csum.fold (a + (65535 - Csum.mend (Csum.mend a o n) n o % 65536)) == 65535) = true := by rw [mb, h]; rfl
    clear mb h
    go_enter Try.func6, Try.ntmps6
    go_wp2_with (first | (go_at_call 13; refine (csum_awake _).mono ?_; rintro e w1 ⟨rfl, hbel1⟩) | (go_at_call 17; refine (csum_join _ _ _ (by omega) (by omega) (by omega) (by omega)).mono ?_; rintro e w' ⟨rfl, rfl⟩) | (go_at_call 15; refine (csum_mendM _ _ _ _ (by omega) (by omega) (by omega) (by omega) (by omega) (by omega)).mono ?_; rintro e w' ⟨rfl, rfl⟩))
    go_ret
    exact ⟨rfl, hbel1⟩
  · rw [if_neg h] at mb
    have h3 : (Csum.fold (Csum.mend (Csum.mend a o n) n o + (65535 - a % 65536)) == 65535) = true := by rw [mb, show a + (65535 - a % 65536) = 65535 by omega]; rfl
    clear mb h
    go_enter Try.func6, Try.ntmps6
    go_wp2_with (first | (go_at_call 13; refine (csum_awake _).mono ?_; rintro e w1 ⟨rfl, hbel1⟩) | (go_at_call 17; refine (csum_join _ _ _ (by omega) (by omega) (by omega) (by omega)).mono ?_; rintro e w' ⟨rfl, rfl⟩) | (go_at_call 15; refine (csum_mendM _ _ _ _ (by omega) (by omega) (by omega) (by omega) (by omega) (by omega)).mono ?_; rintro e w' ⟨rfl, rfl⟩))
    go_ret
    exact ⟨rfl, hbel1⟩
theorem bs_append (a b : List Int) : bs (a ++ b) = bs a ++ bs b := by simp [bs]
theorem Csum.sum_bd {l : List Int} (h : isB l) : 0 ≤ Csum.sum l ∧ Csum.sum l ≤ 65535 := Csum.fold_bd (Csum.tot_nonneg true l h).1
theorem Csum.order_plain (a b : List Int) (ha : a.length % 2 = 0) (hb : b.length % 2 = 0) (h1 : isB a) (h2 : isB b) :
    (Csum.sum (a ++ b) == Csum.sum (b ++ a)) = true ∧ (Csum.sum (a ++ b) == Csum.fold (Csum.sum a + Csum.sum b)) = true := by
  have e1 : decide (a.length % 2 = 1) = false := by rw [ha]; rfl
  have e2 : decide (b.length % 2 = 1) = false := by rw [hb]; rfl
  have t1 := Csum.tot_nonneg true a h1
  have t2 := Csum.tot_nonneg true b h2
  unfold Csum.sum
  rw [Csum.tot_append, Csum.tot_append, e1, e2]
  simp only [Bool.xor_false, beq_iff_eq]
  refine ⟨by rw [Int.add_comm], ?_⟩
  rw [Csum.fold_fold t1.1 (Csum.fold_bd t2.1).1, Int.add_comm, Int.add_comm (Csum.tot true a), Csum.fold_fold t2.1 t1.1]
theorem info_u8 : (Try.prog.info? 5).map (fun i => (i.zero, i.size, i.bytes)) = some (some (.int .u8 0), 1, 1) := by kernel_rfl
set_option maxHeartbeats 1000000 in
theorem csum_order (A : Option Addr) (n c : Nat) (l : List Int) (A' : Option Addr) (n' c' : Nat) (l' : List Int) (w : World) (hR : Rd w 1 A n (bs l)) (hB : isB l) (hn : n ≤ c) (hc : c ≤ 9223372036854775807)
    (hR' : Rd w 1 A' n' (bs l')) (hB' : isB l') (hn' : n' ≤ c') (hc' : c' ≤ 9223372036854775807) :
    Calls Try.prog 5 #[.slice A n c, .slice A' n' c'] w fun e w' => e = .returned (.bool true) ∧ Below w.heap.size w w' := by
  obtain ⟨m, hmin, hm1, hm2, _⟩ := min_named n 3000
  have hmin' : (if (3000 : Int) < (n : Int) then (3000 : Int) else (n : Int)) = (m : Int) := hmin
  clear hmin
  obtain ⟨m', hmin, hm1', hm2', _⟩ := min_named n' 3000
  have hmin'' : (if (3000 : Int) < (n' : Int) then (3000 : Int) else (n' : Int)) = (m' : Int) := hmin
  clear hmin
  have hr := hR.btake (m := m / 2 * 2) (by omega)
  have hb := hB.take (m / 2 * 2)
  have hr' := hR'.btake (m := m' / 2 * 2) (by omega)
  have hb' := hB'.take (m' / 2 * 2)
  clear hR hB hR' hB'
  go_enter Try.func5, Try.ntmps5
  go_wp2_with (go_at_call 13; refine (csum_awake _).mono ?_; rintro e w1 ⟨rfl, hbel1⟩)
  go_quiet (fail)
  go_wp2_with fail
  go_quiet (fail)
  go_wp2_with (first
    | (at_builtin; refine wpList_app0 _ rfl (.tmp 31) (.tmp 32) 22 rfl w (by exact below_drewN hbel1 _) 5 (.int .u8 0) 1 1 Try.underlying22 info_u8 rfl (by decide) rfl A _ _ (bs (l.take (m / 2 * 2))) rfl (by exact (hr.below hbel1).drewN _) (one_bs _) (by unfold maxLen; omega) (by omega) ?_; intro A1 c1 w2 hown1 hbel2 hg1 hat1)
    | (at_builtin; refine wpList_app _ rfl (.tmp 33) (.tmp 34) 22 rfl w hbel2 5 (.int .u8 0) 1 1 Try.underlying22 info_u8 rfl (by decide) _ _ _ rfl hown1 A' _ _ (bs (l'.take (m' / 2 * 2))) rfl (by exact hr'.below hbel2) (one_bs _) (by unfold maxLen; omega) (by omega) ?_; intro A2 c2 w3 hown2 hbel3 hg2 hat2)
    | (at_builtin; refine wpList_app0 _ rfl (.tmp 36) (.tmp 37) 22 rfl w3 (by exact Below.refl _ _) 5 (.int .u8 0) 1 1 Try.underlying22 info_u8 rfl (by decide) rfl A' _ _ (bs (l'.take (m' / 2 * 2))) rfl (by exact hr'.below hbel3) (one_bs _) (by unfold maxLen; omega) (by omega) ?_; intro A3 c3 w4 hown3 hbel4 hg3 hat3)
    | (at_builtin; refine wpList_app _ rfl (.tmp 38) (.tmp 39) 22 rfl w3 hbel4 5 (.int .u8 0) 1 1 Try.underlying22 info_u8 rfl (by decide) _ _ _ rfl hown3 A _ _ (bs (l.take (m / 2 * 2))) rfl (by exact (hr.below hbel3).below hbel4) (one_bs _) (by unfold maxLen; omega) (by omega) ?_; intro A4 c4 w5 hown4 hbel5 hg4 hat4)
    | fail)
  have hb2 : isB (l.take (m / 2 * 2) ++ l'.take (m' / 2 * 2)) := fun x hx => (List.mem_append.1 hx).elim (hb x) (hb' x)
  have hb3 : isB (l'.take (m' / 2 * 2) ++ l.take (m / 2 * 2)) := fun x hx => (List.mem_append.1 hx).elim (hb' x) (hb x)
  have r1 : Rd w5 1 A2 (m / 2 * 2 + m' / 2 * 2) (bs (l.take (m / 2 * 2) ++ l'.take (m' / 2 * 2))) := by rw [bs_append]; exact (Rd.of_own hown2).below hbel5
  have r2 : Rd w5 1 A4 (m' / 2 * 2 + m / 2 * 2) (bs (l'.take (m' / 2 * 2) ++ l.take (m / 2 * 2))) := by rw [bs_append]; exact Rd.of_own hown4
  have r3 := (hr.below hbel3).below hbel5
  have r4 := (hr'.below hbel3).below hbel5
  obtain ⟨s10, s11⟩ := Csum.sum_bd hb
  obtain ⟨s20, s21⟩ := Csum.sum_bd hb'
  have hl1 := hr.blen
  have hl2 := hr'.blen
  obtain ⟨e1, e2⟩ := Csum.order_plain (l.take (m / 2 * 2)) (l'.take (m' / 2 * 2)) (by omega) (by omega) hb hb'
  clear hl1 hl2 hown1 hown2 hown3 hown4 hr hr' hg1 hg2 hg3 hg4 hat1 hat2 hat3 hat4
  go_wp2_with fail
  refine (csum_sum _ _ _ _ _ r1 hb2 (by omega)).mono ?_
  rintro e w' ⟨rfl, rfl⟩
  go_wp2_with fail
  refine (csum_sum _ _ _ _ _ r2 hb3 (by omega)).mono ?_
  rintro e w' ⟨rfl, rfl⟩
  go_wp2_with fail
  refine (csum_sum _ _ _ _ _ r1 hb2 (by omega)).mono ?_
  rintro e w' ⟨rfl, rfl⟩
  go_wp2_with fail
  refine (csum_sum _ _ _ _ _ r3 hb (by omega)).mono ?_
  rintro e w' ⟨rfl, rfl⟩
  go_wp2_with fail
  refine (csum_sum _ _ _ _ _ r4 hb' (by omega)).mono ?_
  rintro e w' ⟨rfl, rfl⟩
  go_wp2_with (go_at_call 17; refine (csum_join _ _ _ (by omega) (by omega) (by omega) (by omega)).mono ?_; rintro e w' ⟨rfl, rfl⟩)
  go_ret
  exact ⟨rfl, bel_then hbel3 hbel5⟩
end Go.Proofs.Ytodcbejdlnikgaa
