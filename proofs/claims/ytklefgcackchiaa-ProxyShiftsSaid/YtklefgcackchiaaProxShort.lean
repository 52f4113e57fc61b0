/- The walk of the reference's Short: what it lets by is small. -/
import Derived.Test.YtklefgcackchiaaProxSame
namespace Go.Proofs.Ytklefgcackchiaa
open Go.RowKit
set_option linter.unusedVariables false
set_option linter.unusedSimpArgs false
def PShortR (t : Tcp.T) (w : World) (e : Ending) (w' : World) : Prop := ∃ b : Bool, e = .returned (.bool b) ∧ (b = true → t.con.small) ∧ Below w.heap.size w w'
theorem pshortR_no {t : Tcp.T} {w w' : World} (hb : Below w.heap.size w w') : PShortR t w (.returned (.bool false)) w' := ⟨false, rfl, (fun h => by cases h), hb⟩
theorem pshortR_yes {t : Tcp.T} {w w' : World} (h : t.con.small) (hb : Below w.heap.size w w') : PShortR t w (.returned (.bool true)) w' := ⟨true, rfl, fun _ => h, hb⟩
set_option maxHeartbeats 2000000 in
theorem pshort_spec (t : Tcp.T) (w : World) (ht : t.ok w) : Calls Try.prog 6 #[.agg #[.int .i64 t.sp, .int .i64 t.dp, .int .u32 t.sq, .int .u32 t.ak, .int .i64 t.fl, .int .i64 t.wi, .int .i64 t.ur, .slice t.Ao t.no t.co, .slice t.Ab t.nb t.cb]] w (PShortR t w) := by
  obtain ⟨W, hW⟩ : ∃ W, W = w.alloc (.cells #[.int .i64 t.sp, .int .i64 t.dp, .int .u32 t.sq, .int .u32 t.ak, .int .i64 t.fl, .int .i64 t.wi, .int .i64 t.ur, .slice t.Ao t.no t.co, .slice t.Ab t.nb t.cb] 26) := ⟨_, rfl⟩
  have hbW : Below w.heap.size w W := by rw [hW]; exact (Below.refl _ _).alloc (Nat.le_refl _) _
  have B0 : BlkV W w.heap.size 26 [.int .i64 t.sp, .int .i64 t.dp, .int .u32 t.sq, .int .u32 t.ak, .int .i64 t.fl, .int .i64 t.wi, .int .i64 t.ur, .slice t.Ao t.no t.co, .slice t.Ab t.nb t.cb] := by rw [hW]; exact BlkV.new w _ _
  have hO := ht.opts.below hbW
  have HSM : Hid (t.no ≤ 60 → t.nb ≤ 3000 → (∀ j o, j < t.no → t.opts[j]? = some o → o.n ≤ 300) → t.con.small) := Lib.hid fun h1 h2 h3 => of_small ht h1 (fun o ho => by
    obtain ⟨j, hj⟩ := List.getElem?_of_mem ho
    exact h3 j o (by have := (List.getElem?_eq_some_iff.1 hj).1; have := ht.opts.1; omega) hj) h2
  have hco := ht.coc
  have hnc := ht.noc
  have hbc := ht.nbc
  have hcb := ht.cbc
  have c7 := B0.cell (i := 7) rfl
  have c8 := B0.cell (i := 8) rfl
  clear B0 ht
  by_cases h1 : 60 < t.no
  · have z1 : (60 : Int) < (t.no : Int) := by omega
    go_enter Try.func6, Try.ntmps6
    go_upto_region 1 with (fail)
    rw [← hW]
    clear hW
    go_wp2_with fail
    go_ret
    exact pshortR_no hbW
  have z1 : ¬ (60 : Int) < (t.no : Int) := by omega
  by_cases h2 : 3000 < t.nb
  · have z2 : (3000 : Int) < (t.nb : Int) := by omega
    go_enter Try.func6, Try.ntmps6
    go_upto_region 1 with (fail)
    rw [← hW]
    clear hW
    go_wp2_with fail
    go_ret
    exact pshortR_no hbW
  have z2 : ¬ (3000 : Int) < (t.nb : Int) := by omega
  have HO := Lib.hid hO
  clear hO
  go_enter Try.func6, Try.ntmps6
  go_upto_region 1 with (fail)
  rw [← hW]
  clear hW
  go_wp2_with fail
  go_loopg [3] t.no (fun g s3 wx => ∃ k : Nat, k + g = t.no ∧ s3 = .int .i64 k ∧ wx = W ∧ Hid (∀ j o, j < k → t.opts[j]? = some o → o.n ≤ 300))
  case atStart => exact ⟨0, by omega, rfl, rfl, Lib.hid fun j o hj => absurd hj (Nat.not_lt_zero _)⟩
  case round =>
    obtain ⟨k, hkg, rfl, rfl, hall⟩ := hrel
    cases gk with
    | zero =>
      have hk : k = t.no := by omega
      have hkz : ¬ (k : Int) < (t.no : Int) := by omega
      have HS := Lib.hid (HSM.out (by omega) (by omega) (fun j o hj => hall.out j o (by omega)))
      clear hk
      go_wp2_with fail
      go_ret
      exact pshortR_yes HS.out hbW
    | succ g2 =>
      have hk : k < t.no := by omega
      have hkz : (k : Int) < (t.no : Int) := by omega
      obtain ⟨o, ho⟩ : ∃ o, t.opts[k]? = some o := ⟨_, List.getElem?_eq_getElem (by rw [HO.out.1]; omega)⟩
      obtain ⟨b, off, hA, hl, hcell⟩ := HO.out.2.2 (by omega)
      obtain ⟨q0, q1⟩ := hcell k o ho
      have HOO := Lib.hid ho
      rw [hA] at c7
      clear hcell ho q0 hA
      by_cases h3 : 300 < o.n
      · have z3 : (300 : Int) < (o.n : Int) := by omega
        go_wp2_with fail
        go_ret
        exact pshortR_no hbW
      · have z3 : ¬ (300 : Int) < (o.n : Int) := by omega
        have HA : Hid (∀ j o, j < k + 1 → t.opts[j]? = some o → o.n ≤ 300) := Lib.hid fun j o' hj ho' => by
          rcases (show j = k ∨ j < k by omega) with rfl | h
          · have := HOO.out
            rw [ho'] at this
            injection this with this
            rw [this]
            omega
          · exact hall.out j o' h ho'
        go_wp2_with fail
        go_roundg g2
        case measure => omega
        case rel => exact ⟨k + 1, by omega, by go_num, rfl, HA⟩
end Go.Proofs.Ytklefgcackchiaa
