/- The walk of the reference's Short: is a segment short enough to be looked at? -/
import Derived.Test.YtihhcalgjkkalaaTcpOpen
namespace Go.Proofs.Ytihhcalgjkkalaa
open Go.RowKit
set_option linter.unusedVariables false
/-- a segment that is said to be short has at most 3000 bytes -/
def ShortR (t : Tcp.T) (w : World) (e : Ending) (w' : World) : Prop := ∃ b : Bool, e = .returned (.bool b) ∧ (b = true → t.nb ≤ 3000 ∧ t.no ≤ 60) ∧ Below w.heap.size w w'
theorem shortR_no {t : Tcp.T} {w w' : World} (hb : Below w.heap.size w w') : ShortR t w (.returned (.bool false)) w' := ⟨false, rfl, (fun h => by cases h), hb⟩
set_option maxHeartbeats 1000000 in
theorem short_spec (t : Tcp.T) (w : World) (ht : t.ok w) : Calls Try.prog 13 #[.agg #[.int .i64 t.sp, .int .i64 t.dp, .int .u32 t.sq, .int .u32 t.ak, .int .i64 t.fl, .int .i64 t.wi, .int .i64 t.ur, .slice t.Ao t.no t.co, .slice t.Ab t.nb t.cb]] w (ShortR t w) := by
  obtain ⟨W, hW⟩ : ∃ W, W = w.alloc (.cells #[.int .i64 t.sp, .int .i64 t.dp, .int .u32 t.sq, .int .u32 t.ak, .int .i64 t.fl, .int .i64 t.wi, .int .i64 t.ur, .slice t.Ao t.no t.co, .slice t.Ab t.nb t.cb] 37) := ⟨_, rfl⟩
  have hbW : Below w.heap.size w W := by rw [hW]; exact (Below.refl _ _).alloc (Nat.le_refl _) _
  have hc : ∀ i, W.cell? ⟨w.heap.size, i, none⟩ = #[Value.int .i64 t.sp, .int .i64 t.dp, .int .u32 t.sq, .int .u32 t.ak, .int .i64 t.fl, .int .i64 t.wi, .int .i64 t.ur, .slice t.Ao t.no t.co, .slice t.Ab t.nb t.cb][i]? := fun i => by rw [hW]; exact cell_of_row _ _ i _ _ (0, 0) (heap_alloc_new w _)
  have c7 := hc 7
  have c8 := hc 8
  simp only [List.getElem?_toArray, List.getElem?_cons_succ, List.getElem?_cons_zero] at c7 c8
  clear hc
  have hO := ht.opts.below hbW
  have hno := ht.noc
  have hco := ht.coc
  have hnb := ht.nbc
  have hcb := ht.cbc
  generalize t.Ao = Ao at *
  generalize hn1 : t.no = no at *
  generalize t.co = co at *
  generalize t.Ab = Ab at *
  generalize hn2 : t.nb = nb at *
  generalize t.cb = cb at *
  have HN1 := Lib.hid hn1
  have HN2 := Lib.hid hn2
  clear hn1 hn2 ht
  by_cases h1 : 60 < no
  · go_enter Try.func13, Try.ntmps13
    go_wp2_with fail
    rw [← hW]
    clear hW
    go_wp2
    go_ret
    exact shortR_no hbW
  by_cases h2 : 3000 < nb
  · go_enter Try.func13, Try.ntmps13
    go_wp2_with fail
    rw [← hW]
    clear hW
    go_wp2
    go_ret
    exact shortR_no hbW
  go_enter Try.func13, Try.ntmps13
  go_wp2_with fail
  rw [← hW]
  clear hW
  go_loop [3] (fun i => ∃ k : Nat, k ≤ no ∧ i = .int .i64 k) (fun i => no - (intOf i).toNat)
  case atStart => exact ⟨0, by omega, rfl⟩
  case round =>
    obtain ⟨k, hk, rfl⟩ := hrel
    by_cases hlt : k < no
    · obtain ⟨b, off, rfl, hb, hcell⟩ := hO.2.2 (by omega)
      obtain ⟨o, ho⟩ : ∃ o, t.opts[k]? = some o := ⟨_, List.getElem?_eq_getElem (by rw [hO.1]; omega)⟩
      obtain ⟨q0, q1⟩ := hcell k o ho
      have HC := Lib.hid hcell
      have HOO := Lib.hid ho
      clear hcell ho q0
      by_cases h3 : 300 < o.n
      · go_wp2
        go_ret
        exact shortR_no hbW
      · go_wp2
        go_round
        case rel => exact ⟨k + 1, by omega, by go_num⟩
        case measure => simp [intOf]; omega
    · go_wp2
      go_ret
      exact ⟨true, rfl, fun _ => by rw [HN1.out, HN2.out]; omega, hbW⟩
end Go.Proofs.Ytihhcalgjkkalaa
