/- The walk of FlowsLeast. -/
import Derived.Test.YtdboehogkmidbaaFlAwake
namespace Go.Proofs.Ytdboehogkmidbaa
open Go.RowKit
set_option linter.unusedVariables false
set_option linter.unusedSimpArgs false
namespace Fl
def fl (i : Nat) : F := ⟨⟨0, i, 0, 1000, 0⟩, ⟨0, 1000, 0, i, 0⟩, 5, 0⟩
def lst (n i : Nat) : Sl := (List.range n).map (fun j => if j < i then some (fl j) else none)
theorem lst_len (n i : Nat) : (lst n i).length = n := by simp [lst]
theorem lst_slot {n i j : Nat} : slot (lst n i) j = if j < n ∧ j < i then some (fl j) else none := by
  by_cases hj : j < n
  · rw [slot_get (by rw [lst_len]; exact hj)]
    simp [lst, hj]
  · rw [if_neg (by omega)]
    unfold slot
    rw [List.getElem?_eq_none (by rw [lst_len]; omega)]
    rfl
theorem lst_zero (n : Nat) : lst n 0 = List.replicate n none := by
  apply List.ext_getElem (by simp [lst])
  intro i h1 h2
  simp [lst]
theorem lst_set {n i : Nat} (hi : i < n) : (lst n i).set i (some (fl i)) = lst n (i + 1) := by
  apply List.ext_getElem (by simp [lst])
  intro j h1 h2
  simp only [lst, List.getElem_set, List.getElem_map, List.getElem_range]
  by_cases e : i = j
  · subst e; simp
  · rw [if_neg e]
    by_cases h : j < i
    · rw [if_pos h, if_pos (by omega)]
    · rw [if_neg h, if_neg (by omega)]
theorem lst_free {n i : Nat} (hi : i < n) : Free (lst n i) i := by
  refine ⟨by rw [lst_len]; exact hi, by rw [lst_slot, if_neg (by omega)], fun j hj => ⟨fl j, by rw [lst_slot, if_pos (by omega)]⟩⟩
theorem lst_of {n i : Nat} {k : Idx.Key} {m : Int} (h : Of (lst n i) k m) : ∃ j, j < n ∧ j < i ∧ (k = (fl j).th ∨ k = (fl j).bk) := by
  obtain ⟨j, f, hs, ho⟩ := h
  rw [lst_slot] at hs
  by_cases hc : j < n ∧ j < i
  · rw [if_pos hc] at hs
    injection hs with hs
    subst hs
    refine ⟨j, hc.1, hc.2, ?_⟩
    rcases ho with ⟨h1, _⟩ | ⟨h1, _⟩
    · exact Or.inl h1
    · exact Or.inr h1
  · rw [if_neg hc] at hs; cases hs
theorem lst_no1 {n i : Nat} (hn : n ≤ 40) (hi : i ≤ n) : No (lst n i) (fl i).th := fun m ho => by
  obtain ⟨j, h1, h2, h3 | h3⟩ := lst_of ho
  · have : (i : Int) = j := congrArg Idx.Key.sr h3
    omega
  · have : (i : Int) = 1000 := congrArg Idx.Key.sr h3
    omega
theorem lst_no2 {n i : Nat} (hn : n ≤ 40) (hi : i ≤ n) : No (lst n i) (fl i).bk := fun m ho => by
  obtain ⟨j, h1, h2, h3 | h3⟩ := lst_of ho
  · have : (1000 : Int) = j := congrArg Idx.Key.sr h3
    omega
  · have : (i : Int) = j := congrArg Idx.Key.ds h3
    omega
theorem lst_count (n : Nat) : count (lst n n) = n := by
  unfold count
  rw [List.countP_eq_length.2, lst_len]
  intro o ho
  obtain ⟨j, hj, rfl⟩ := List.mem_map.1 ho
  rw [if_pos (List.mem_range.1 hj)]
  rfl
theorem fl_ok {i : Nat} (hi : i ≤ 40) : (fl i).th.wf ∧ (fl i).bk.wf ∧ Idx.right (fl i).th = true ∧ Idx.right (fl i).bk = true ∧ (fl i).th ≠ (fl i).bk := by
  refine ⟨⟨⟨by show (0 : Int) ≤ i; omega, by show (i : Int) ≤ 4294967295; omega⟩, by show (0 : Int) ≤ 1000; omega, by show (1000 : Int) ≤ 4294967295; omega⟩, ⟨⟨by show (0 : Int) ≤ 1000; omega, by show (1000 : Int) ≤ 4294967295; omega⟩, by show (0 : Int) ≤ i; omega, by show (i : Int) ≤ 4294967295; omega⟩, by simp [Idx.right, fl], by simp [Idx.right, fl], fun h => ?_⟩
  have : (i : Int) = 1000 := congrArg Idx.Key.sr h
  omega
/-- the last flow -/
def fz : F := ⟨⟨0, 5000, 0, 0, 0⟩, ⟨0, 0, 0, 5000, 0⟩, 9, 0⟩
def gone (n d : Nat) : Sl := (lst n n).set d none
theorem gone_free {n d : Nat} (hd : d < n) : Free (gone n d) d := by
  have hl : d < (lst n n).length := by rw [lst_len]; exact hd
  refine ⟨by simpa [gone] using hl, by unfold gone; rw [slot_set hl, if_pos rfl], fun j hj => ⟨fl j, ?_⟩⟩
  unfold gone
  rw [slot_set hl, if_neg (by omega), lst_slot, if_pos (by omega)]
theorem gone_of {n d : Nat} (hd : d < n) {k : Idx.Key} {m : Int} (h : Of (gone n d) k m) : ∃ j, j < n ∧ (k = (fl j).th ∨ k = (fl j).bk) := by
  have hl : d < (lst n n).length := by rw [lst_len]; exact hd
  obtain ⟨j, f, hs, ho⟩ := h
  unfold gone at hs
  rw [slot_set hl] at hs
  by_cases e : j = d
  · rw [if_pos e] at hs; cases hs
  · rw [if_neg e] at hs
    obtain ⟨j', h1, _, h3⟩ := lst_of ⟨j, f, hs, ho⟩
    exact ⟨j', h1, h3⟩
theorem gone_no {n d : Nat} (hd : d < n) (hn : n ≤ 40) : No (gone n d) fz.th ∧ No (gone n d) fz.bk := by
  constructor
  · intro m ho
    obtain ⟨j, h1, h3 | h3⟩ := gone_of hd ho
    · have : (0 : Int) = 1000 := congrArg Idx.Key.ds h3
      omega
    · have : (5000 : Int) = 1000 := congrArg Idx.Key.sr h3
      omega
  · intro m ho
    obtain ⟨j, h1, h3 | h3⟩ := gone_of hd ho
    · have : (5000 : Int) = 1000 := congrArg Idx.Key.ds h3
      omega
    · have : (0 : Int) = 1000 := congrArg Idx.Key.sr h3
      omega
theorem gone_count {n d : Nat} (hd : d < n) : count ((gone n d).set d (some fz)) = n := by
  have hl : d < (lst n n).length := by rw [lst_len]; exact hd
  have hg : d < (gone n d).length := by simpa [gone] using hl
  have h1 := count_set hl none
  have h2 := count_set hg (some fz)
  rw [lst_slot, if_pos ⟨hd, hd⟩, lst_count] at h1
  have h3 : slot (gone n d) d = none := (gone_free hd).2.1
  rw [h3] at h2
  unfold gone at h2 ⊢
  simp at h1 h2
  simp
  omega
end Fl
set_option maxRecDepth 8000 in
set_option maxHeartbeats 8000000 in
theorem FlowsLeast_walk (room drop : Int) (w : World) (hr : 0 ≤ room ∧ room ≤ 255) (hd : 0 ≤ drop ∧ drop ≤ 255) :
    Calls Try.prog 3 #[.int .u8 room, .int .u8 drop] w fun e w' => e = .returned (.bool true) ∧ Below w.heap.size w w' := by
  obtain ⟨hr0, hr1⟩ := hr
  obtain ⟨hd0, hd1⟩ := hd
  obtain ⟨n, hn⟩ : ∃ n : Nat, room % 40 + 1 = (n : Int) := Int.eq_ofNat_of_zero_le (by omega)
  have hn1 : 1 ≤ n := by omega
  have hn2 : n ≤ 40 := by omega
  obtain ⟨d, hdd⟩ : ∃ d : Nat, drop % (n : Int) = (d : Int) := Int.eq_ofNat_of_zero_le (Int.emod_nonneg _ (by omega))
  have hdn : d < n := by have := Int.emod_lt_of_pos drop (b := (n : Int)) (by omega); omega
  have HW := Lib.hid (fawake_spec w)
  go_enter Try.func3, Try.ntmps3
  go_wp2_with fail
  refine HW.out.mono ?_
  rintro ee w1 ⟨rfl, hb1⟩
  have Hb1 := Lib.hid hb1
  have HN := Lib.hid (fnew_sf n w1 hn1 (by omega))
  clear HW hb1
  go_wp2_with fail
  refine HN.out.mono ?_
  rintro ee w2 ⟨gs, rfl, hF⟩
  have HF := Lib.hid hF
  have HF0 : Hid (SF w1 gs (Fl.lst n 0) 0 w2) := Lib.hid (by rw [Fl.lst_zero]; exact HF.out)
  have HDD := Lib.hid hdd
  clear hF HN HF hn
  go_wp2_with fail
  go_loopg [8] (n + 2) (fun gg s8 wx => ∃ i : Nat, i ≤ n + 1 ∧ n + 1 - i < gg ∧ s8 = .int .i64 i ∧ Aside (SF w1 gs (Fl.lst n (min i n)) 0 wx))
  case atStart => exact ⟨0, by omega, by omega, rfl, by rw [Nat.zero_min]; exact HF0.out⟩
  case round =>
    obtain ⟨i, hi, hg, rfl, HX⟩ := hrel
    by_cases hin : i ≤ n
    · have hiz : (i : Int) ≤ (n : Int) := by omega
      have hwi : IntKind.u32.wrap (i : Int) = (i : Int) := by rw [IntKind.wrap_u32]; omega
      have hmi : min i n = i := by omega
      obtain ⟨k1, k2, r1, r2, hne⟩ := Fl.fl_ok (i := i) (by omega)
      have hX := HX.out
      rw [hmi] at hX
      have hba : Below wr.heap.size wr (wr.alloc (.cells #[.int .i64 0, .int .u32 i, .int .i64 0, .int .u32 1000, .int .i64 0, .int .i64 0, .int .u32 1000, .int .i64 0, .int .u32 i, .int .i64 0, .int .i64 5, .int .i64 0] 31)) := bel_a (Below.refl _ _) _
      have hXa := hX.below hba
      by_cases hlt : i < n
      · have hltz : (i : Int) < (n : Int) := by omega
        have HA := Lib.hid (hXa.add_ok (Fl.fl i) k1 k2 r1 r2 hne (show (0 : Int) < 5 by decide) (show (5 : Int) ≤ 1099511627776 by decide) (Fl.lst_no1 hn2 hin) (Fl.lst_no2 hn2 hin) (Fl.lst_free hlt))
        clear hX hXa hba k1 k2 r1 r2 hne hmi HX
        go_wp2_with fail
        refine HA.out.mono ?_
        rintro ee w3 ⟨rfl, hF3, _⟩
        have HF3 : Hid (SF w1 gs (Fl.lst n (min (i + 1) n)) 0 w3) := Lib.hid (by rw [show min (i + 1) n = i + 1 by omega, ← Fl.lst_set hlt]; exact hF3)
        clear HA hF3
        go_wp2_with fail
        go_roundg (gk - 1)
        case measure => omega
        case rel => exact ⟨i + 1, by omega, by omega, by go_num, HF3.out⟩
      · obtain rfl : n = i := by omega
        have HA := Lib.hid (hXa.add_full (Fl.fl n) k1 k2 r1 r2 hne (show (0 : Int) < 5 by decide) (show (5 : Int) ≤ 1099511627776 by decide) (Fl.lst_no1 hn2 hin) (Fl.lst_no2 hn2 hin) (by rw [Fl.lst_count, Fl.lst_len]))
        clear hX hXa hba k1 k2 r1 r2 hne hmi HX
        go_wp2_with fail
        refine HA.out.mono ?_
        rintro ee w3 ⟨rfl, hF3, _⟩
        have HF3 : Hid (SF w1 gs (Fl.lst n (min (n + 1) n)) 0 w3) := Lib.hid (by rw [show min (n + 1) n = n by omega]; exact hF3)
        clear HA hF3
        go_wp2_with fail
        go_roundg (gk - 1)
        case measure => omega
        case rel => exact ⟨n + 1, by omega, by omega, by go_num, HF3.out⟩
    · obtain rfl : i = n + 1 := by omega
      have hX := HX.out
      rw [show min (n + 1) n = n by omega] at hX
      have HD := Lib.hid (hX.drop (i := d) (f := Fl.fl d) (by rw [Fl.lst_slot, if_pos ⟨hdn, hdn⟩]))
      clear hX HX HF0
      have hdd' := HDD.out
      go_wp2_with fail
      refine HD.out.mono ?_
      rintro ee w3 ⟨rfl, hF3, _⟩
      have hF3' : SF w1 gs (Fl.gone n d) 0 w3 := hF3
      have hba : Below w3.heap.size w3 (w3.alloc (.cells #[.int .i64 0, .int .u32 d, .int .i64 0, .int .u32 1000, .int .i64 0, .int .i64 0, .int .u32 1000, .int .i64 0, .int .u32 d, .int .i64 0, .int .i64 5, .int .i64 0] 31)) := bel_a (Below.refl _ _) _
      have hNo := Fl.gone_no hdn hn2
      have HA := Lib.hid ((hF3'.below hba).add_ok Fl.fz ⟨⟨by decide, by decide⟩, by decide, by decide⟩ ⟨⟨by decide, by decide⟩, by decide, by decide⟩ (by decide) (by decide) (by decide) (by decide) (by decide) hNo.1 hNo.2 (Fl.gone_free hdn))
      have hN : BlkV (w3.alloc (.cells #[.int .i64 0, .int .u32 d, .int .i64 0, .int .u32 1000, .int .i64 0, .int .i64 0, .int .u32 1000, .int .i64 0, .int .u32 d, .int .i64 0, .int .i64 5, .int .i64 0] 31)) w3.heap.size 31 [.int .i64 0, .int .u32 d, .int .i64 0, .int .u32 1000, .int .i64 0, .int .i64 0, .int .u32 1000, .int .i64 0, .int .u32 d, .int .i64 0, .int .i64 5, .int .i64 0] := BlkV.new _ _ _
      have HNB := Lib.hid hN
      have HCt := Lib.hid (Fl.gone_count hdn)
      clear hF3 hF3' hba hNo HD hN
      go_wp2_with fail
      refine HA.out.mono ?_
      rintro ee w4 ⟨rfl, hF4, hfr4⟩
      have hB4 := hfr4.blk _ _ _ HNB.out (by decide) (by decide) (by decide) (by decide)
      have x1 : w4.cell? ⟨w3.heap.size, 1, none⟩ = some (.int .u32 d) := hB4.cell rfl
      have hL := hF4.len
      rw [HCt.out] at hL
      have HL := Lib.hid hL
      have HB4 := Lib.hid hF4.bel
      have hwd : IntKind.u32.wrap (d : Int) = (d : Int) := by rw [IntKind.wrap_u32]; omega
      clear hF4 hfr4 hB4 HA HNB hL
      go_wp2_with fail
      refine HL.out.mono ?_
      rintro ee w5 ⟨rfl, rfl⟩
      clear HL
      go_wp2_with fail
      go_ret
      exact ⟨rfl, bel_then Hb1.out HB4.out⟩
end Go.Proofs.Ytdboehogkmidbaa
