/- The walks of the reference of csum that go through memory. -/
import Derived.Test.YtodcbejdlnikgaaCsumWalks
namespace Go.Proofs.Ytodcbejdlnikgaa
open Go.RowKit
set_option linter.unusedVariables false
attribute [local go_sem] u64_low16 u32_low16 u16_not u16_signed u64_of_u16
theorem info_u16 : (Try.prog.info? 23).map (fun i => (i.zero, i.size, i.bytes)) = some (some (.int .u16 0), 1, 2) := by kernel_rfl
set_option maxHeartbeats 1000000 in
theorem rcsum_words (A : Option Addr) (n c : Nat) (l : List Int) (w : World) (h : Rd w 1 A n (bs l)) (hb : isB l) (hn : n ≤ 140737488355327) :
    Calls Try.prog 33 #[.slice A n c] w (RetS w 23 ((Csum.words l).map (.int .u16))) := by
  obtain ⟨i0, hi, hz0, hz1, hz2⟩ := info_parts info_u16
  have hl := h.blen
  go_enter Try.func33, Try.ntmps33
  go_wp2
  go_loopw [3, 4] (fun v i wr => ∃ k : Nat, k ≤ n + 1 ∧ k % 2 = 0 ∧ i = .int .i64 k ∧ wr.ownsRow w.heap.size 23 1 v (Csum.words (l.take k)).length ((Csum.words (l.take k)).map (.int .u16)) ∧ Below w.heap.size w wr) (fun _ i _ => n + 1 - (intOf i).toNat)
  case atStart => exact ⟨0, by omega, rfl, rfl, World.ownsRow_nil _ _ _ _, Below.refl _ _⟩
  case round =>
    obtain ⟨k, hk, hk2, rfl, hown, hbel⟩ := hrel
    have hwl := Csum.words_len (l.take k)
    have hlt' : (l.take k).length ≤ k := List.length_take_le _ _
    by_cases hlt : k < n
    · obtain ⟨b, off, rfl, hbl, hcell⟩ := h.byte hlt
      obtain ⟨g0, g1⟩ := hb.getD k
      rw [List.getD_eq_getElem?_getD] at g0 g1
      have hcell' := (hbel.cell (p := ⟨b, off + k, none⟩) hbl).trans hcell
      by_cases hlt2 : k + 1 < n
      · obtain ⟨b', off', hA, hbl', hcell2⟩ := h.byte hlt2
        simp only [Option.some.injEq, Addr.mk.injEq, and_true] at hA
        obtain ⟨rfl, rfl⟩ := hA
        obtain ⟨g2, g3⟩ := hb.getD (k + 1)
        rw [List.getD_eq_getElem?_getD] at g2 g3
        have hcell2' := (hbel.cell (p := ⟨b, off + (k + 1), none⟩) hbl).trans hcell2
        have hw2 := Csum.words_take2 l k hk2 (by omega)
        have HW := Lib.hid hw2
        clear hw2 h hcell hcell2 hl
        have hsz := hbel.size
        go_wp2_with (first | (at_builtin; refine wpList_append_own _ rfl (.tmp 31) (.tmp 33) 55 rfl w.heap.size 23 i0 (.int .u16 0) 1 2 Try.underlying55 hi hz0 hz1 hz2 rfl (by decide) _ _ _ rfl (hown.alloc _) ⟨wr.heap.size, 0, none⟩ 1 1 [.int .u16 (l[k]?.getD 0 * 256 + l[k + 1]?.getD 0)] rfl rfl (cell_one_new _ _ _) (by simp [Value.oneCell']) (by unfold maxLen; omega) (by omega) (by simp; omega) ?_; intro v' w1 hown' hgrow hnil))
        go_roundw
        case rel =>
          refine ⟨k + 2, by omega, by omega, by go_num, ?_, ?_⟩
          · rw [HW.out, List.length_append, List.map_append]; exact hown'
          · exact (hbel.alloc hsz _).grown hgrow (by simp; omega) (fun g hg => (hown.lt g hg).1)
        case measure => simp [intOf]; omega
      · have hw2 := Csum.words_take1 l k hk2 (by omega)
        have HW := Lib.hid hw2
        clear hw2 h hcell hl
        have hsz := hbel.size
        go_wp2_with (first | (at_builtin; refine wpList_append_own _ rfl (.tmp 31) (.tmp 33) 55 rfl w.heap.size 23 i0 (.int .u16 0) 1 2 Try.underlying55 hi hz0 hz1 hz2 rfl (by decide) _ _ _ rfl (hown.alloc _) ⟨wr.heap.size, 0, none⟩ 1 1 [.int .u16 (l[k]?.getD 0 * 256)] rfl rfl (cell_one_new _ _ _) (by simp [Value.oneCell']) (by unfold maxLen; omega) (by omega) (by simp; omega) ?_; intro v' w1 hown' hgrow hnil))
        go_roundw
        case rel =>
          refine ⟨k + 2, by omega, by omega, by go_num, ?_, ?_⟩
          · rw [HW.out, List.length_append, List.map_append]; exact hown'
          · exact (hbel.alloc hsz _).grown hgrow (by simp; omega) (fun g hg => (hown.lt g hg).1)
        case measure => simp [intOf]; omega
    · have hr : l.take k = l := List.take_of_length_le (by omega)
      rw [hr] at hown
      clear hr h hl
      obtain ⟨A', c', rfl⟩ := own_form hown
      go_wp2
      go_ret
      exact ⟨A', c', by simp, by simpa using hown, hbel⟩
set_option maxHeartbeats 1000000 in
theorem rcsum_sum (A : Option Addr) (n c : Nat) (l : List Int) (w : World) (h : Rd w 1 A n (bs l)) (hb : isB l) (hn : n ≤ 140737488355327) :
    Calls Try.prog 18 #[.slice A n c] w fun e w' => e = .returned (.int .u16 (Csum.sum l)) ∧ Below w.heap.size w w' := by
  have hl := h.blen
  have hbd := Csum.words_bd l hb
  have hwl := Csum.words_len l
  have hwb : (Csum.words l).length ≤ 140737488355327 := by omega
  have hfin : Csum.fold (Csum.words l).sum = Csum.sum l := by rw [Csum.words_sum]; rfl
  have HF := Lib.hid hfin
  have HL := Lib.hid hwl
  clear hfin hwl hl
  go_enter Try.func18, Try.ntmps18
  go_wp2_with (go_at_call 33; refine (rcsum_words _ _ _ _ _ h hb hn).mono ?_; rintro e w1 ⟨A1, c1, rfl, hown, hbel⟩)
  have hrd := Rd.of_own hown
  clear hown
  go_loop [3, 5] (fun s i => ∃ k : Nat, k ≤ (Csum.words l).length ∧ i = .int .i64 k ∧ s = .int .u16 (Csum.fold ((Csum.words l).take k).sum)) (fun _ i => (Csum.words l).length - (intOf i).toNat)
  case atStart => exact ⟨0, by omega, rfl, rfl⟩
  case round =>
    obtain ⟨k, hk, rfl, rfl⟩ := hrel
    have hs0 := Csum.sum_nonneg ((Csum.words l).take k) (fun x hx => hbd x (List.mem_of_mem_take hx))
    obtain ⟨f0, f1⟩ := Csum.fold_bd hs0
    by_cases hlt : k < (Csum.words l).length
    · obtain ⟨b1, off1, x, rfl, hbl, hcell, hx, hxm⟩ := hrd.int hlt
      obtain ⟨g0, g1⟩ := hbd x hxm
      have hf : Csum.fold ((Csum.words l).take (k + 1)).sum = Csum.fold (Csum.fold ((Csum.words l).take k).sum + x) := by
        rw [Csum.sum_take (Csum.words l) k x hx.out, Csum.fold_fold hs0 g0]
      have HF1 := Lib.hid hf
      clear hf hrd hx hxm
      go_wp2_with (go_at_call 20; refine (rcsum_join _ _ _ (by omega) (by omega) (by omega) (by omega)).mono ?_; rintro e w' ⟨rfl, rfl⟩)
      go_round
      case rel => exact ⟨k + 1, by omega, by go_num, val_int HF1.out.symm⟩
      case measure => simp [intOf]; omega
    · have hr : (Csum.words l).take k = Csum.words l := List.take_of_length_le (by omega)
      rw [hr]
      clear hr hrd
      go_wp2
      go_ret
      exact ⟨ret_int HF.out, hbel⟩
set_option maxHeartbeats 1000000 in
theorem rcsum_of (A : Option Addr) (n c : Nat) (l : List Int) (w : World) (h : Rd w 1 A n (bs l)) (hb : isB l) (hn : n ≤ 140737488355327) :
    Calls Try.prog 19 #[.slice A n c] w fun e w' => e = .returned (.int .u16 (65535 - Csum.sum l)) ∧ Below w.heap.size w w' := by
  obtain ⟨h0, h1⟩ : 0 ≤ Csum.sum l ∧ Csum.sum l ≤ 65535 := Csum.fold_bd (Csum.tot_nonneg true l hb).1
  go_enter Try.func19, Try.ntmps19
  go_wp2_with (go_at_call 18; refine (rcsum_sum _ _ _ _ _ h hb hn).mono ?_; rintro e w1 ⟨rfl, hbel⟩)
  go_ret
  exact ⟨rfl, hbel⟩
set_option maxHeartbeats 1000000 in
theorem rcsum_mend (a b d : Int) (w : World) (ha0 : 0 ≤ a) (ha1 : a ≤ 65535) (hb0 : 0 ≤ b) (hb1 : b ≤ 65535) (hd0 : 0 ≤ d) (hd1 : d ≤ 65535) :
    Calls Try.prog 21 #[.int .u16 a, .int .u16 b, .int .u16 d] w fun e w' => e = .returned (.int .u16 (65535 - Csum.fold (65535 - a + (65535 - b) + d))) ∧ w = w' := by
  obtain ⟨f0, f1⟩ := Csum.fold_bd (n := 65535 - a + (65535 - b)) (by omega)
  have hf := Csum.fold_fold (a := 65535 - a + (65535 - b)) (b := d) (by omega) (by omega)
  obtain ⟨f2, f3⟩ := Csum.fold_bd (n := Csum.fold (65535 - a + (65535 - b)) + d) (by omega)
  have HF := Lib.hid hf
  clear hf
  go_enter Try.func21, Try.ntmps21
  go_wp2_with (go_at_call 20; refine (rcsum_join _ _ _ (by omega) (by omega) (by omega) (by omega)).mono ?_; rintro e w' ⟨rfl, rfl⟩)
  go_ret
  exact ⟨ret_int (by rw [← HF.out]), rfl⟩
def Csum.pl (a b p q : Int) : List Int := [a / 65536, a % 65536, b / 65536, b % 65536, p % 65536, q % 65536]
def Csum.ps (a b p q : Int) (k : Nat) : Int := Csum.fold ((Csum.pl a b p q).take k).sum
theorem Csum.pl_bd (a b p q : Int) (ha0 : 0 ≤ a) (ha1 : a ≤ 4294967295) (hb0 : 0 ≤ b) (hb1 : b ≤ 4294967295) : ∀ x ∈ Csum.pl a b p q, 0 ≤ x ∧ x ≤ 65535 := by
  intro x hx
  simp only [Csum.pl, List.mem_cons, List.not_mem_nil, or_false] at hx
  omega
theorem Csum.ps_bd (a b p q : Int) (ha0 : 0 ≤ a) (ha1 : a ≤ 4294967295) (hb0 : 0 ≤ b) (hb1 : b ≤ 4294967295) (k : Nat) : 0 ≤ Csum.ps a b p q k ∧ Csum.ps a b p q k ≤ 65535 :=
  Csum.fold_bd (Csum.sum_nonneg _ fun x hx => Csum.pl_bd a b p q ha0 ha1 hb0 hb1 x (List.mem_of_mem_take hx))
theorem Csum.ps_step (a b p q : Int) (ha0 : 0 ≤ a) (ha1 : a ≤ 4294967295) (hb0 : 0 ≤ b) (hb1 : b ≤ 4294967295) (k : Nat) (x : Int) (hx : (Csum.pl a b p q)[k]? = some x) : Csum.fold (Csum.ps a b p q k + x) = Csum.ps a b p q (k + 1) := by
  unfold Csum.ps
  rw [Csum.sum_take _ k x hx]
  exact Csum.fold_fold (Csum.sum_nonneg _ fun x hx => Csum.pl_bd a b p q ha0 ha1 hb0 hb1 x (List.mem_of_mem_take hx)) (Csum.pl_bd a b p q ha0 ha1 hb0 hb1 x (List.mem_of_getElem? hx)).1
theorem Csum.ps_six (a b p q : Int) : Csum.ps a b p q 6 = Csum.fold (a / 65536 + a % 65536 + b / 65536 + b % 65536 + p % 65536 + q % 65536) := by
  unfold Csum.ps Csum.pl
  congr 1
  simp only [List.take_succ_cons, List.take_zero, List.sum_cons, List.sum_nil]
  omega
theorem u16_wrap_bd (p : Int) : 0 ≤ IntKind.u16.wrap p ∧ IntKind.u16.wrap p ≤ 65535 := by rw [IntKind.wrap_u16]; omega
set_option maxHeartbeats 1600000 in
theorem rcsum_pseudo (a b p q : Int) (w : World) (ha0 : 0 ≤ a) (ha1 : a ≤ 4294967295) (hb0 : 0 ≤ b) (hb1 : b ≤ 4294967295) :
    Calls Try.prog 23 #[.int .u32 a, .int .u32 b, .int .i64 p, .int .i64 q] w fun e w' => e = .returned (.int .u16 (Csum.fold (a / 65536 + a % 65536 + b / 65536 + b % 65536 + p % 65536 + q % 65536))) ∧ Below w.heap.size w w' := by
  rw [← Csum.ps_six]
  obtain ⟨p0, p1⟩ := u16_wrap_bd p
  obtain ⟨q0, q1⟩ := u16_wrap_bd q
  have hpb := Csum.ps_bd a b p q ha0 ha1 hb0 hb1
  have hst := Lib.hid (Csum.ps_step a b p q ha0 ha1 hb0 hb1)
  go_enter Try.func23, Try.ntmps23
  go_wp2
  go_loop [10, 11] (fun s i => ∃ k : Nat, k ≤ 6 ∧ i = .int .i64 k ∧ s = .int .u16 (Csum.ps a b p q k)) (fun _ i => 6 - (intOf i).toNat)
  case atStart => exact ⟨0, by omega, rfl, rfl⟩
  case round =>
    obtain ⟨k, hk, rfl, rfl⟩ := hrel
    obtain ⟨s0, s1⟩ := hpb k
    clear hpb
    rcases (show k = 0 ∨ k = 1 ∨ k = 2 ∨ k = 3 ∨ k = 4 ∨ k = 5 ∨ k = 6 by omega) with rfl | rfl | rfl | rfl | rfl | rfl | rfl
    all_goals go_wp2_with (go_at_call 20; refine (rcsum_join _ _ _ (by omega) (by omega) (by omega) (by omega)).mono ?_; rintro e w' ⟨rfl, rfl⟩)
    · go_round
      case rel => exact ⟨1, by omega, rfl, val_int (hst.out 0 _ rfl)⟩
      case measure => simp [intOf]
    · go_round
      case rel => exact ⟨2, by omega, rfl, val_int (hst.out 1 _ rfl)⟩
      case measure => simp [intOf]
    · go_round
      case rel => exact ⟨3, by omega, rfl, val_int (hst.out 2 _ rfl)⟩
      case measure => simp [intOf]
    · go_round
      case rel => exact ⟨4, by omega, rfl, val_int (hst.out 3 _ rfl)⟩
      case measure => simp [intOf]
    · go_round
      case rel => exact ⟨5, by omega, rfl, val_int (by rw [IntKind.wrap_u16]; exact hst.out 4 _ rfl)⟩
      case measure => simp [intOf]
    · go_round
      case rel => exact ⟨6, by omega, rfl, val_int (by rw [IntKind.wrap_u16]; exact hst.out 5 _ rfl)⟩
      case measure => simp [intOf]
    · go_ret
      exact ⟨rfl, (Below.refl _ _).alloc (Nat.le_refl _) _⟩
end Go.Proofs.Ytodcbejdlnikgaa
