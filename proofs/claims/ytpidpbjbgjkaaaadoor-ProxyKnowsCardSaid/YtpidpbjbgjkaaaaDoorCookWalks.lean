/- The walks of package cookie: whole, half, Size, Text. -/
import Derived.Test.YtpidpbjbgjkaaaaDoorCookPlain
import Derived.Test.YtpidpbjbgjkaaaaDoorMacTurn
import Derived.Test.YtpidpbjbgjkaaaaDoorBlkV
namespace Go.Proofs.YtpidpbjbgjkaaaaDoor
open Go.RowKit
set_option linter.unusedVariables false
theorem Cook.w4_word (x : Int) (h0 : 0 ≤ x) (h1 : x ≤ 4294967295) : Sha.word4 x = Cook.w4 x := by
  unfold Sha.word4 Cook.w4
  rw [show x / 16777216 % 256 = x / 16777216 by omega]
set_option maxHeartbeats 1000000 in
theorem cwhole_spec (A : Option Addr) (n c : Nat) (l : List Int) (x : Int) (a0 w : World) (hbel : Below a0.heap.size a0 w) (hown : w.ownsRow a0.heap.size 5 1 (.slice A n c) n (bs l)) (hx0 : 0 ≤ x) (hx1 : x ≤ 4294967295) (hn : n ≤ 4294960000) :
    Calls Tryd.prog 64 #[.slice A n c, .int .u32 x] w fun e w' => ∃ A' c', e = .returned (.slice A' (n + 4) c') ∧ w'.ownsRow a0.heap.size 5 1 (.slice A' (n + 4) c') (n + 4) (bs (l ++ Cook.w4 x)) ∧ Below a0.heap.size a0 w' := by
  have HO := Lib.hid hown
  have hbs := hbel.size
  have HB := Lib.hid hbel
  have HW : Hid (bs l ++ bs (Sha.word4 x) = bs (l ++ Cook.w4 x)) := Lib.hid (by rw [Cook.w4_word x hx0 hx1]; exact (bs_append _ _).symm)
  clear hown
  go_enter Tryd.func64, Tryd.ntmps64
  go_wp2_with (at_builtin; refine wpList_app _ rfl (.tmp 5) (.tmp 17) 27 rfl a0 (by exact hbel.alloc hbs _) 5 (.int .u8 0) 1 1 Tryd.underlying27 pad_info8 rfl (by decide) _ n (bs l) rfl (by exact own_below HO.out ((Below.refl _ _).alloc (Nat.le_refl _) _)) (some ⟨_, 0, none⟩) 4 4 (bs (Sha.word4 x)) rfl (by exact rd_new _ _ (Sha.word4 x) 4 rfl) (one_bs _) (by unfold maxLen; omega) (by omega) ?_; intro A3 c3 w3 hown3 hb3 hg3 hat3)
  go_ret
  rw [HW.out] at hown3
  exact ⟨A3, c3, rfl, hown3, hb3⟩
set_option maxHeartbeats 1000000 in
theorem chalf_spec (A : Option Addr) (n c : Nat) (l : List Int) (x : Int) (a0 w : World) (hbel : Below a0.heap.size a0 w) (hown : w.ownsRow a0.heap.size 5 1 (.slice A n c) n (bs l)) (hn : n ≤ 4294960000) :
    Calls Tryd.prog 63 #[.slice A n c, .int .i64 x] w fun e w' => ∃ A' c', e = .returned (.slice A' (n + 2) c') ∧ w'.ownsRow a0.heap.size 5 1 (.slice A' (n + 2) c') (n + 2) (bs (l ++ Cook.h2 x)) ∧ Below a0.heap.size a0 w' := by
  have HO := Lib.hid hown
  have hbs := hbel.size
  have HW : Hid (bs l ++ bs (Cook.h2 x) = bs (l ++ Cook.h2 x)) := Lib.hid (bs_append _ _).symm
  clear hown
  go_enter Tryd.func63, Tryd.ntmps63
  go_wp2_with (at_builtin; refine wpList_app _ rfl (.tmp 5) (.tmp 11) 27 rfl a0 (by exact hbel.alloc hbs _) 5 (.int .u8 0) 1 1 Tryd.underlying27 pad_info8 rfl (by decide) _ n (bs l) rfl (by exact own_below HO.out ((Below.refl _ _).alloc (Nat.le_refl _) _)) (some ⟨_, 0, none⟩) 2 2 (bs (Cook.h2 x)) rfl (by exact rd_new _ _ (Cook.h2 x) 2 rfl) (one_bs _) (by unfold maxLen; omega) (by omega) ?_; intro A3 c3 w3 hown3 hb3 hg3 hat3)
  go_ret
  rw [HW.out] at hown3
  exact ⟨A3, c3, rfl, hown3, hb3⟩
theorem csizes_spec (w : World) : Calls Tryd.prog 39 #[] w fun e w' => ∃ g, e = .returned (.slice (some ⟨g, 0, none⟩) 8 8) ∧ BlkV w' g 3 (Cook.sizes.map (Value.int .i64)) ∧ Below w.heap.size w w' := by
  go_enter Tryd.func39, Tryd.ntmps39
  go_wp2
  go_ret
  exact ⟨_, rfl, heap_alloc_new w _, (Below.refl _ _).alloc (Nat.le_refl _) _⟩
theorem Cook.size_get {i : Nat} (hi : i ≤ 7) : (Cook.sizes.map (Value.int .i64))[i]? = some (.int .i64 (Cook.sizeAt i)) := by
  rcases (show i = 0 ∨ i = 1 ∨ i = 2 ∨ i = 3 ∨ i = 4 ∨ i = 5 ∨ i = 6 ∨ i = 7 by omega) with rfl | rfl | rfl | rfl | rfl | rfl | rfl | rfl <;> rfl
set_option maxHeartbeats 2000000 in
theorem csize_spec (m : Int) (w : World) : Calls Tryd.prog 22 #[.int .i64 m] w fun e w' => e = .returned (.tuple #[.int .i64 (Cook.place m), .int .i64 (Cook.sizeAt (Cook.place m))]) ∧ Below w.heap.size w w' := by
  have HP : Hid (∀ i, i ≤ 7 → (Cook.sizeAt i ≤ m ∨ i = 0) → (∀ j, i < j → j ≤ 7 → m < Cook.sizeAt j) → Cook.place m = i) := Lib.hid fun i => Cook.place_of
  obtain ⟨pm, hpm⟩ : ∃ pm, Cook.place m = pm := ⟨_, rfl⟩
  rw [hpm]
  have HPM := Lib.hid hpm
  clear hpm
  go_enter Tryd.func22, Tryd.ntmps22
  go_wp2_with fail
  refine (csizes_spec w).mono ?_
  rintro e w1 ⟨g, rfl, hv, hb1⟩
  have HV := Lib.hid hv
  clear hv
  go_wp2_with fail
  go_loopg [5] 7 (fun gg s5 wx => ∃ i : Nat, i = gg ∧ i ≤ 7 ∧ s5 = .int .i64 i ∧ wx = w1 ∧ Hid (∀ j, i < j → j ≤ 7 → m < Cook.sizeAt j))
  case atStart => exact ⟨7, rfl, by omega, rfl, rfl, Lib.hid fun j h0 h1 => by omega⟩
  case round =>
    obtain ⟨i, hig, hi7, rfl, rfl, hall⟩ := hrel
    have HIG := Lib.hid hig
    clear hig
    have hc := HV.out.cell (Cook.size_get hi7)
    by_cases h0 : i = 0
    · subst h0
      have HE : Hid (pm = 0) := Lib.hid (by rw [← HPM.out]; exact HP.out 0 (by omega) (Or.inr rfl) hall.out)
      go_wp2_with fail
      go_quiet (fail)
      go_wp2_with fail
      go_ret2
      obtain rfl := HE.out
      exact ⟨rfl, by repeat (first | with_reducible exact hb1 | with_reducible refine bel_drN2 ?_ _ | with_reducible refine bel_dr2 ?_)⟩
    · have hz : ¬ (i : Int) = 0 := by omega
      have hz1 : 0 < (i : Int) := by omega
      obtain ⟨x, hx⟩ : ∃ x, Cook.sizeAt i = x := ⟨_, rfl⟩
      rw [hx] at hc
      have HX := Lib.hid hx
      clear hx
      by_cases h1 : m < x
      · cases gk with
        | zero => exact absurd HIG.out h0
        | succ g0 =>
          go_wp2_with fail
          go_roundg g0
          case measure => (have := HIG.out; omega)
          case rel => exact ⟨g0, rfl, by have := HIG.out; omega, by rw [HIG.out]; go_num, rfl, Lib.hid fun j h2 h3 => by
            rcases (show j = i ∨ i < j by have := HIG.out; omega) with rfl | h4
            · rw [HX.out]; exact h1
            · exact hall.out j h4 h3⟩
      · have HE : Hid (pm = i) := Lib.hid (by rw [← HPM.out]; exact HP.out i hi7 (Or.inl (by rw [HX.out]; omega)) hall.out)
        go_wp2_with fail
        go_quiet (fail)
        go_wp2_with fail
        go_ret2
        obtain rfl := HE.out
        rw [HX.out]
        exact ⟨rfl, by repeat (first | with_reducible exact hb1 | with_reducible refine bel_drN2 ?_ _ | with_reducible refine bel_dr2 ?_)⟩
end Go.Proofs.YtpidpbjbgjkaaaaDoor
