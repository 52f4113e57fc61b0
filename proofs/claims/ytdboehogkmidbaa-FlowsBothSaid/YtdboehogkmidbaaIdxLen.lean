/- The walks of index.Len, Right, Get. -/
import Derived.Test.YtdboehogkmidbaaIdxFind
namespace Go.Proofs.Ytdboehogkmidbaa
open Go.RowKit
set_option linter.unusedVariables false
attribute [local go_sem ↓] eq_key eq_cell_nil
theorem Idx.many_snoc {l : List Idx.Cell} {k : Nat} (h : k < l.length) : Idx.many (l.take (k + 1)) = Idx.many (l.take k) + (if (Idx.at' l k).u then 1 else 0) := by
  unfold Idx.many
  rw [List.take_succ_eq_append_getElem h, List.countP_append, Idx.at_lt h]
  simp [List.countP_cons]
theorem Idx.many_le (l : List Idx.Cell) : Idx.many l ≤ l.length := List.countP_le_length
set_option maxRecDepth 8000 in
set_option maxHeartbeats 4000000 in
theorem len_spec (A : Option Addr) (n c : Nat) (l : List Idx.Cell) (w : World) (hT : TabR w A n l) (hn : n ≤ 9223372036854775807) :
    Calls Try.prog 33 #[.slice A n c] w fun e w' => e = .returned (.int .i64 (Idx.many l)) ∧ Below w.heap.size w w' := by
  have HT := Lib.hid hT
  have hl := Lib.hid hT.len
  clear hT
  go_enter Try.func33, Try.ntmps33
  go_wp2
  go_loopg [3, 8] n (fun gg s i wx => ∃ j : Nat, j ≤ n ∧ n - j ≤ gg ∧ i = .int .i64 j ∧ s = .int .i64 (Idx.many (l.take j)) ∧ Aside (Below w.heap.size w wx))
  case atStart => exact ⟨0, by omega, by omega, rfl, rfl, Below.refl _ _⟩
  case round =>
    obtain ⟨j, hj, hg, rfl, rfl, BW⟩ := hrel
    by_cases hlt : j < n
    · have hltz : (j : Int) < (n : Int) := by omega
      obtain ⟨b, off, rfl, hbs, e0, e1, e2, e3, e4, e5, e6⟩ := (HT.out.below BW.out).seven hlt
      have HS := Lib.hid (Idx.many_snoc (l := l) (k := j) (by rw [hl.out]; exact hlt))
      have hml : Idx.many (l.take j) ≤ j := by have := Idx.many_le (l.take j); have := List.length_take_le j l; omega
      generalize Idx.at' l j = x at *
      generalize Idx.many (l.take j) = m at *
      cases hu : x.u
      · rw [hu] at e0
        have HS' : Hid (Idx.many (l.take (j + 1)) = m) := Lib.hid (by have h' := HS.out; rw [hu] at h'; simpa using h')
        clear HS hu
        go_wp2
        go_roundg (n - (j + 1))
        case measure => omega
        case rel => exact ⟨j + 1, by omega, by omega, by go_num, by rw [HS'.out], by repeat (first | exact BW.out | refine bel_al2 ?_ _ | refine Below.setCell ?_ ?_ _)⟩
      · rw [hu] at e0
        have HS' : Hid (Idx.many (l.take (j + 1)) = m + 1) := Lib.hid (by have h' := HS.out; rw [hu] at h'; simpa using h')
        clear HS hu
        go_wp2
        go_roundg (n - (j + 1))
        case measure => omega
        case rel => exact ⟨j + 1, by omega, by omega, by go_num, by rw [HS'.out]; go_num, by repeat (first | exact BW.out | refine bel_al2 ?_ _ | refine Below.setCell ?_ ?_ _)⟩
    · have hltz : ¬ (j : Int) < (n : Int) := by omega
      have HE : Hid (Idx.many (l.take j) = Idx.many l) := Lib.hid (by rw [List.take_of_length_le (by rw [hl.out]; omega)])
      go_wp2
      go_ret
      exact ⟨ret_int (by rw [HE.out]), BW.out⟩
end Go.Proofs.Ytdboehogkmidbaa
