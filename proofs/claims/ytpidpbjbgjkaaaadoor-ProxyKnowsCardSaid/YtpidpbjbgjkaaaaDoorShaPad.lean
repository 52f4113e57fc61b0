/- The walk of sha.padded. -/
import Derived.Test.YtpidpbjbgjkaaaaDoorShaMix
import Derived.Test.YtpidpbjbgjkaaaaDoorBlkB
namespace Go.Proofs.YtpidpbjbgjkaaaaDoor
open Go.RowKit
set_option linter.unusedVariables false
namespace Sha
/-- how many bytes are padded -/
def psize (n : Nat) : Nat := (n + 8) / 64 * 64 + 64
theorem psize_ge (n : Nat) : n + 9 ≤ psize n := by unfold psize; omega
def tail8 (n : Nat) : List Int := (List.range 8).map fun i => ((n * 8 / 256 ^ (7 - i) % 256 : Nat) : Int)
theorem pad_eq (l : List Int) : pad l = (l ++ [128] ++ List.replicate (psize l.length - l.length - 9) 0) ++ tail8 l.length := rfl
theorem pad_len (l : List Int) : (pad l).length = psize l.length := by
  have := psize_ge l.length
  rw [pad_eq]
  simp [tail8]
  omega
theorem pad_last (l : List Int) (j : Nat) (hj : j < 8) : (pad l).getD (psize l.length - 1 - j) 0 = ((l.length * 8 / 256 ^ j % 256 : Nat) : Int) := by
  have h9 := psize_ge l.length
  have e : psize l.length - 1 - j = (l ++ [128] ++ List.replicate (psize l.length - l.length - 9) (0 : Int)).length + (7 - j) := by simp; omega
  rw [pad_eq, e, List.getD_eq_getElem?_getD, List.getElem?_append_right (by omega), Nat.add_sub_cancel_left, tail8, List.getElem?_map, List.getElem?_range (by omega)]
  simp only [Option.map_some, Option.getD_some]
  rw [show 7 - (7 - j) = j by omega]
theorem pad_isB {l : List Int} (h : isB l) : isB (pad l) := by
  intro x hx
  rw [pad_eq] at hx
  rcases List.mem_append.1 hx with hx | hx
  · rcases List.mem_append.1 hx with hx | hx
    · rcases List.mem_append.1 hx with hx | hx
      · exact h x hx
      · rw [List.mem_singleton] at hx
        omega
    · have := List.eq_of_mem_replicate hx
      omega
  · simp only [tail8, List.mem_map] at hx
    obtain ⟨i, _, rfl⟩ := hx
    omega
/-- the bytes ahead of their length -/
def pbase (l : List Int) : List Int := l ++ (128 :: List.replicate (psize l.length - l.length - 1) 0)
theorem pbase_len (l : List Int) : (pbase l).length = psize l.length := by
  have := psize_ge l.length
  simp [pbase]
  omega
theorem pbase_take (l : List Int) (j : Nat) (hj : j ≤ 8) (h0 : l.length * 8 / 256 ^ j = 0) : (pbase l).take (psize l.length - j) ++ (pad l).drop (psize l.length - j) = pad l := by
  have h9 := psize_ge l.length
  have e : (pbase l).take (psize l.length - j) = (pad l).take (psize l.length - j) := by
    apply List.ext_getElem?
    intro i
    by_cases hi : i < psize l.length - j
    · rw [List.getElem?_take_of_lt hi, List.getElem?_take_of_lt hi, pad_eq, pbase]
      by_cases h1 : i < l.length
      · simp [List.getElem?_append, h1]
      · by_cases h2 : i = l.length
        · subst h2
          simp
        · by_cases h3 : i < psize l.length - 8
          · obtain ⟨q, hq⟩ : ∃ q, i = l.length + 1 + q := ⟨i - l.length - 1, by omega⟩
            subst hq
            rw [List.append_assoc, List.append_assoc]
            rw [List.getElem?_append_right (by omega), List.getElem?_append_right (by omega)]
            rw [show l.length + 1 + q - l.length = q + 1 by omega]
            simp only [List.getElem?_cons_succ, List.cons_append, List.nil_append]
            rw [List.getElem?_append_left (by simp; omega)]
            simp [show q < psize l.length - l.length - 1 by omega, show q < psize l.length - l.length - 9 by omega]
          · obtain ⟨m, hm⟩ : ∃ m, i = psize l.length - 1 - m ∧ m < 8 ∧ j ≤ m := ⟨psize l.length - 1 - i, by omega⟩
            obtain ⟨hm, hm8, hmj⟩ := hm
            have e2 := pad_last l m hm8
            have hz : l.length * 8 / 256 ^ m = 0 := by
              have : 256 ^ j ≤ 256 ^ m := Nat.pow_le_pow_right (by decide) hmj
              rw [Nat.div_eq_zero_iff] at h0 ⊢
              have hp : 0 < 256 ^ j := Nat.pow_pos (by decide)
              right; omega
            rw [hz, ← hm, pad_eq] at e2
            have hlen : i < ((l ++ [128] ++ List.replicate (psize l.length - l.length - 9) (0 : Int)) ++ tail8 l.length).length := by simp [tail8]; omega
            have e3 : ((l ++ [128] ++ List.replicate (psize l.length - l.length - 9) (0 : Int)) ++ tail8 l.length)[i]? = some 0 := by
              rw [List.getElem?_eq_getElem hlen]
              rw [List.getD_eq_getElem?_getD, List.getElem?_eq_getElem hlen] at e2
              simpa using e2
            rw [e3, List.getElem?_append_right (by omega)]
            obtain ⟨q, hq⟩ : ∃ q, i - l.length = q + 1 := ⟨i - l.length - 1, by omega⟩
            rw [hq, List.getElem?_cons_succ, List.getElem?_replicate, if_pos (by omega)]
    · rw [List.getElem?_eq_none (by simp; omega), List.getElem?_eq_none (by simp; omega)]
  rw [e, List.take_append_drop]
end Sha
theorem mid_set_r {l m : List Int} {k : Nat} (h : l.length = m.length) (hk : k < l.length) : (l.take (k + 1) ++ m.drop (k + 1)).set k (m.getD k 0) = l.take k ++ m.drop k := by
  have hm : k < m.length := by omega
  rw [List.drop_eq_getElem_cons hm, List.set_append_left _ _ (by simp; omega)]
  have e : (l.take (k + 1)).set k (m.getD k 0) = l.take k ++ [m.getD k 0] := by
    rw [List.take_add_one, List.getElem?_eq_getElem hk, List.set_append_right _ _ (by simp; omega)]
    simp [show min k l.length = k by omega]
  rw [e, List.append_assoc, show m.getD k 0 = m[k] by simp [hm]]
  rfl
theorem pad_info8 : (Tryd.prog.info? 5).map (fun i => (i.zero, i.size, i.bytes)) = some (some (.int .u8 0), 1, 1) := by kernel_rfl
set_option maxRecDepth 4000 in
set_option maxHeartbeats 4000000 in
theorem padded_spec (A : Option Addr) (n c : Nat) (l : List Int) (w : World) (hR : Rd w 1 A n (bs l)) (hn : n ≤ 4294967295) :
    Calls Tryd.prog 78 #[.slice A n c] w fun e w' => e = .returned (.slice (some ⟨w.heap.size, 0, none⟩) (Sha.psize n) (Sha.psize n)) ∧ BlkB w' w.heap.size 5 (Sha.pad l) ∧ Below w.heap.size w w' := by
  have hl := hR.blen
  have h9 := Sha.psize_ge n
  obtain ⟨N, hN⟩ : ∃ N, N = Sha.psize n := ⟨_, rfl⟩
  have hNb : N ≤ 4294967368 := by rw [hN]; unfold Sha.psize; omega
  rw [← hN] at h9 ⊢
  have e1 : IntKind.i64.wrap ((n : Int) + 8) = (n : Int) + 8 := IntWalk.i64_in _ (by omega)
  have e2 : (IntKind.i64.wrap (Int.tdiv ((n : Int) + 8) 64)) = (((n + 8) / 64 : Nat) : Int) := by
    rw [Int.tdiv_eq_ediv_of_nonneg (by omega), IntWalk.i64_in _ (by omega)]; omega
  have hNI : ((n : Int) + 8) / 64 * 64 + 64 = (N : Int) := by rw [hN]; unfold Sha.psize; omega
  have e3 : IntKind.u64.wrap (n : Int) = (n : Int) := by rw [IntKind.wrap_u64]; omega
  have e4 : IntKind.u64.wrap ((n : Int) * 8) = (n : Int) * 8 := by rw [IntKind.wrap_u64]; omega
  have e5 : IntKind.i64.wrap ((N : Int) - 1) = (N : Int) - 1 := IntWalk.i64_in _ (by omega)
  have hnN : (n : Int) < (N : Int) := by omega
  obtain ⟨W, hW⟩ : ∃ W, W = w.alloc (.cells (Array.replicate N (Value.int .u8 0)) 5) := ⟨_, rfl⟩
  have hbW : Below w.heap.size w W := by rw [hW]; exact (Below.refl _ _).alloc (Nat.le_refl _) _
  have B0 : BlkB W w.heap.size 5 (List.replicate N 0) := by
    rw [hW]
    have := heap_alloc_new w (.cells (Array.replicate N (Value.int .u8 0)) 5)
    show _ = _
    rw [this, bs, List.map_replicate, List.toArray_replicate]
  have HPOS : Hid (0 < (bs l).length → (some ⟨w.heap.size, 0, none⟩ : Option Addr) = some ⟨w.heap.size, 0, none⟩ ∧ ∃ ad, A = some ad ∧ ∀ j v, (bs l)[j]? = some v → W.cell? (ad.add j) = some v) := Lib.hid fun h0 => by
    rw [bs_len, hl] at h0
    obtain ⟨b, off, e, hb, hc⟩ := (hR.below hbW).2 h0
    refine ⟨rfl, ⟨b, off, none⟩, e, fun j v hv => ?_⟩
    rw [add_off]
    exact hc j v hv
  have HS : Hid (∀ w2 : World, Hid (w2.heap[w.heap.size]? = some (.cells (splice (bs (List.replicate N 0)) 0 (bs l)).toArray 5 (0, 0))) → BlkB w2 w.heap.size 5 (l ++ List.replicate (N - n) 0)) := Lib.hid fun w2 h => by
    refine h.out.trans ?_
    unfold splice bs
    simp [hl]
  have HL1 : Hid ((bs l).length = Nat.min n N) := Lib.hid (by rw [bs_len, hl]; exact (Nat.min_eq_left (by omega)).symm)
  have HL2 : Hid (0 + (bs l).length ≤ (bs (List.replicate N 0)).length) := Lib.hid (by rw [bs_len, bs_len, hl, List.length_replicate]; omega)
  have HN := Lib.hid hN
  have HL := Lib.hid hl
  clear hN hR
  have BB0 := Lib.hid B0
  have HBW := Lib.hid hbW
  clear B0 hbW
  have hlen2 : Hid (n < (l ++ List.replicate (N - n) (0 : Int)).length) := Lib.hid (by simp [hl]; omega)
  clear hl
  go_enter Tryd.func78, Tryd.ntmps78
  go_upto_region 6 with (first | (at_make; refine wpList_made rfl (.tmp 13) (.tmp 13) 27 rfl 5 (.int .u8 0) 1 Tryd.underlying27 pad_info8 rfl N (N : Int) rfl (by first | rfl | exact congrArg _ hNI) (by first | rfl | exact congrArg _ hNI) (by omega) (by omega) ?_) | (rw [← hW]; refine wpList_copy_splice rfl (.tmp 15) (.tmp 16) 27 27 rfl 5 Tryd.underlying27 (by kernel_rfl) _ A N N n c rfl rfl w.heap.size 0 (bs (List.replicate N 0)) 5 BB0.out (bs l) HL1.out HPOS.out HL2.out (one_bs l) w.heap.size w HBW.out (Nat.le_refl _) ?_; intro w2 HG2 hb2; have B2 := HS.out w2 HG2; have z2 := B2.unfrozen n; have c2 := B2.cell (i := n) hlen2.out))
  have HP : Hid (∀ j, j < 8 → (Sha.pad l).getD (N - 1 - j) 0 = ((n * 8 / 256 ^ j % 256 : Nat) : Int)) := Lib.hid (by
    intro j hj
    have := Sha.pad_last l j hj
    rw [HL.out, ← HN.out] at this
    exact this)
  have HE : Hid (∀ j, j ≤ 8 → n * 8 / 256 ^ j = 0 → (Sha.pbase l).take (N - j) ++ (Sha.pad l).drop (N - j) = Sha.pad l) := Lib.hid (by
    intro j hj h0
    have := Sha.pbase_take l j hj (by rw [HL.out]; exact h0)
    rw [HL.out, ← HN.out] at this
    exact this)
  have HL3 : Hid ((Sha.pad l).length = N) := Lib.hid (by rw [Sha.pad_len, HL.out, ← HN.out])
  have HL4 : Hid ((Sha.pbase l).length = N) := Lib.hid (by rw [Sha.pbase_len, HL.out, ← HN.out])
  have HST : Hid ((l ++ List.replicate (N - n) 0).set n 128 = (Sha.pbase l).take (N - 0) ++ (Sha.pad l).drop (N - 0)) := Lib.hid (by
    have h1 : N - n = (N - n - 1) + 1 := by omega
    rw [Nat.sub_zero, List.take_of_length_le (by rw [HL4.out]; exact Nat.le_refl _), List.drop_of_length_le (by rw [HL3.out]; exact Nat.le_refl _), List.append_nil]
    unfold Sha.pbase
    rw [HL.out, ← HN.out, List.set_append_right _ _ (by rw [HL.out]; exact Nat.le_refl _), HL.out, Nat.sub_self, h1, List.replicate_succ, List.set_cons_zero]
    rfl)
  have HB2 := Lib.hid B2
  clear B2 z2 c2 e1 e2 hNI e3 e4 e5 hnN HG2 hW
  go_loopg [5, 6] 8 (fun g s5 s6 wx => ∃ j : Nat, j + g = 8 ∧ s5 = .int .i64 ((N : Int) - 1 - j) ∧ s6 = .int .u64 ((n * 8 / 256 ^ j : Nat) : Int) ∧ Below w.heap.size w wx ∧ BlkB wx w.heap.size 5 ((Sha.pbase l).take (N - j) ++ (Sha.pad l).drop (N - j)))
  case atStart => exact ⟨0, by omega, val_int (by omega), val_int (by simp), hb2.setCell (Nat.le_refl _) _, (HB2.out.put n 128).fit HST.out⟩
  case round =>
    obtain ⟨j, hjg, rfl, rfl, hbx, Bx⟩ := hrel
    clear hb2 HB2 HST
    obtain ⟨m, hm⟩ : ∃ m, m = n * 8 / 256 ^ j := ⟨_, rfl⟩
    rw [← hm]
    have hmb : m ≤ 34359738360 := by
      rw [hm]
      exact Nat.le_trans (Nat.div_le_self _ _) (by omega)
    by_cases h0 : m = 0
    · have hfin := HE.out j (by omega) (by rw [← hm]; exact h0)
      have HF := Lib.hid (Bx.fit hfin)
      clear Bx hm hfin
      subst h0
      go_wp2_with fail
      go_ret
      exact ⟨rfl, HF.out, hbx⟩
    · cases gk with
      | zero =>
        exfalso
        obtain rfl : j = 8 := by omega
        apply h0
        rw [hm]
        exact Nat.div_eq_of_lt (by have : (256 : Nat) ^ 8 = 18446744073709551616 := by decide
                                   omega)
      | succ g =>
        obtain ⟨k, hk⟩ : ∃ k, k = N - 1 - j := ⟨_, rfl⟩
        have hki : (N : Int) - 1 - (j : Int) = (k : Int) := by omega
        rw [hki]
        have hkN : (k : Int) < (N : Int) := by omega
        have hm0 : (0 : Int) < (m : Int) := by omega
        have hmod : IntKind.u8.wrap (m : Int) = ((m % 256 : Nat) : Int) := by rw [IntKind.wrap_u8]; omega
        have hw1 : IntKind.i64.wrap ((k : Int) - 1) = (k : Int) - 1 := IntWalk.i64_in _ (by omega)
        have z := Bx.unfrozen k
        have hlt := Bx.lt
        have cc := Bx.cell (i := k) (by simp [HL3.out, HL4.out]; omega)
        generalize ((Sha.pbase l).take (N - j) ++ (Sha.pad l).drop (N - j)).getD k 0 = old at cc
        have HV : Hid ((m : Int) % 256 = (Sha.pad l).getD k 0) := Lib.hid (by rw [hk, HP.out j (by omega), ← hm]; omega)
        have HM : Hid (m / 256 = n * 8 / 256 ^ (j + 1)) := Lib.hid (by rw [hm, Nat.div_div_eq_div_mul, Nat.pow_succ])
        have HB := Lib.hid Bx
        have HK := Lib.hid hk
        clear Bx hm hk h0
        go_wp2_with fail
        go_roundg g
        case measure => omega
        case rel =>
          have hk := HK.out
          refine ⟨j + 1, by omega, val_int (by omega), val_int (by rw [← HM.out]; omega), hbx.setCell (Nat.le_refl _) _, (HB.out.put k _).fit ?_⟩
          rw [HV.out, show N - j = k + 1 by omega, show N - (j + 1) = k by omega]
          exact mid_set_r (by rw [HL3.out, HL4.out]) (by rw [HL4.out]; omega)
end Go.Proofs.YtpidpbjbgjkaaaaDoor
