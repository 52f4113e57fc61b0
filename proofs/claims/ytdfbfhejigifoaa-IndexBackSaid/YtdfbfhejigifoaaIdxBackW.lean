/- The walk of IndexBack. -/
import Derived.Test.YtdfbfhejigifoaaIdxAwake
namespace Go.Proofs.Ytdfbfhejigifoaa
open Go.RowKit
set_option linter.unusedVariables false
set_option maxHeartbeats 8000000 in
theorem IndexBack_walk (A : Option Addr) (n c : Nat) (l : List Idx.Cell) (k : Idx.Key) (x : Int) (w : World) (hT : TabR w A n l) (hn : n ≤ 9223372036854775807) (hk : k.wf) :
    Calls Try.prog 5 #[.slice A n c, .agg #[.int .i64 k.pr, .int .u32 k.sr, .int .i64 k.sp, .int .u32 k.ds, .int .i64 k.dp], .int .i64 x] w fun e w' => e = .returned (.bool true) ∧ Below w.heap.size w w' := by
  obtain ⟨W, hW⟩ : ∃ W, W = w.alloc (.cells #[.int .i64 k.pr, .int .u32 k.sr, .int .i64 k.sp, .int .u32 k.ds, .int .i64 k.dp] 25) := ⟨_, rfl⟩
  have hbW : Below w.heap.size w W := by rw [hW]; exact (Below.refl _ _).alloc (Nat.le_refl _) _
  have K5 : Hid (∀ w' : World, Below W.heap.size W w' → w'.cell? ⟨w.heap.size, 0, none⟩ = some (.int .i64 k.pr) ∧ w'.cell? ⟨w.heap.size, 1, none⟩ = some (.int .u32 k.sr) ∧ w'.cell? ⟨w.heap.size, 2, none⟩ = some (.int .i64 k.sp) ∧ w'.cell? ⟨w.heap.size, 3, none⟩ = some (.int .u32 k.ds) ∧ w'.cell? ⟨w.heap.size, 4, none⟩ = some (.int .i64 k.dp)) := Lib.hid fun w' hb => key_c5 W k w.heap.size (by rw [hW]; exact BlkV.new _ _ _) w' hb
  have HT := Lib.hid (hT.below hbW)
  have HBW := Lib.hid hbW
  have HAW := Lib.hid (idx_awake W)
  clear hT
  go_enter Try.func5, Try.ntmps5
  go_upto_region 1 with (fail)
  rw [← hW]
  clear hW hbW
  go_wp2_with fail
  refine HAW.out.mono ?_
  rintro e w1 ⟨rfl, hb⟩
  have HB1 := Lib.hid (bel_then HBW.out hb)
  have HT1 := Lib.hid (HT.out.below hb)
  have K1 : Hid (∀ w' : World, Below w1.heap.size w1 w' → w'.cell? ⟨w.heap.size, 0, none⟩ = some (.int .i64 k.pr) ∧ w'.cell? ⟨w.heap.size, 1, none⟩ = some (.int .u32 k.sr) ∧ w'.cell? ⟨w.heap.size, 2, none⟩ = some (.int .i64 k.sp) ∧ w'.cell? ⟨w.heap.size, 3, none⟩ = some (.int .u32 k.ds) ∧ w'.cell? ⟨w.heap.size, 4, none⟩ = some (.int .i64 k.dp)) := Lib.hid fun w' h' => K5.out w' (bel_then hb h')
  clear hb HT HBW K5 HAW
  by_cases h64 : n ≤ 64
  · have h64z : (n : Int) ≤ 64 := by omega
    obtain ⟨d0, d1, d2, d3, d4⟩ := K1.out w1 (Below.refl _ _)
    have HP := Lib.hid (put_spec A n c l k x w1 HT1.out hk (by omega))
    obtain ⟨R, er, hR⟩ : ∃ R er, Idx.put l k x = (R, er) := ⟨_, _, rfl⟩
    have hRl : R.length = l.length := by have := Idx.put_len l k x; rw [hR] at this; exact this
    have HR := Lib.hid hR
    have HRL := Lib.hid hRl
    rw [hR] at HP
    clear hR hRl
    go_wp2_with fail
    refine HP.out.mono ?_
    rintro e w2 ⟨A2, c2, rfl, hT2, hb⟩
    have HB2 := Lib.hid (bel_then HB1.out hb)
    have HT2 := Lib.hid (HT1.out.below hb)
    have HR2 := Lib.hid hT2
    have K2 : Hid (∀ w' : World, Below w2.heap.size w2 w' → w'.cell? ⟨w.heap.size, 0, none⟩ = some (.int .i64 k.pr) ∧ w'.cell? ⟨w.heap.size, 1, none⟩ = some (.int .u32 k.sr) ∧ w'.cell? ⟨w.heap.size, 2, none⟩ = some (.int .i64 k.sp) ∧ w'.cell? ⟨w.heap.size, 3, none⟩ = some (.int .u32 k.ds) ∧ w'.cell? ⟨w.heap.size, 4, none⟩ = some (.int .i64 k.dp)) := Lib.hid fun w' h' => K1.out w' (bel_then hb h')
    clear hb hT2 d0 d1 d2 d3 d4 HP K1 HT1 HB1
    by_cases he : er = 0
    · subst he
      obtain ⟨hD, hG⟩ := Idx.back HR.out
      have HD := Lib.hid hD
      have HG := Lib.hid hG
      clear hD hG
      obtain ⟨d0, d1, d2, d3, d4⟩ := K2.out w2 (Below.refl _ _)
      have HDS := Lib.hid (del_spec A2 n c2 R k w2 HR2.out hk (by omega))
      rw [HD.out] at HDS
      go_wp2_with fail
      refine HDS.out.mono ?_
      rintro e w3 ⟨A3, c3, rfl, hT3, hb⟩
      have HB3 := Lib.hid (bel_then HB2.out hb)
      have HT3 := Lib.hid (HT2.out.below hb)
      have HR3 := Lib.hid hT3
      obtain ⟨d0', d1', d2', d3', d4'⟩ := K2.out w3 hb
      have HGS := Lib.hid (get_spec A3 n c3 l k w3 hT3 hk (by omega))
      rw [HG.out] at HGS
      clear hb hT3 d0 d1 d2 d3 d4 HDS HT2 HB2
      go_wp2_with fail
      refine HGS.out.mono ?_
      rintro e w4 ⟨rfl, hb⟩
      have HB4 := Lib.hid (bel_then HB3.out hb)
      have HS := Lib.hid (same_spec A3 n c3 l A n c l w4 (HR3.out.below hb) (HT3.out.below hb) (by omega) (by omega))
      rw [show decide (l = l) = true by simp] at HS
      clear hb d0' d1' d2' d3' d4' HGS HT3 HB3 HR3
      go_wp2_with fail
      refine HS.out.mono ?_
      rintro e w5 ⟨rfl, hb⟩
      have HB5 := Lib.hid (bel_then HB4.out hb)
      clear hb
      go_wp2_with fail
      go_ret
      exact ⟨rfl, HB5.out⟩
    · have hez : (er == 0) = false := by simpa using he
      have hez2 : (er != 0) = true := by simpa using he
      have hRl : R = l := Idx.put_err HR.out he
      subst hRl
      have HS := Lib.hid (same_spec A2 n c2 R A n c R w2 HR2.out HT2.out (by omega) (by omega))
      rw [show decide (R = R) = true by simp] at HS
      clear he
      go_wp2_with fail
      refine HS.out.mono ?_
      rintro e w5 ⟨rfl, hb⟩
      have HB5 := Lib.hid (bel_then HB2.out hb)
      clear hb
      go_wp2_with fail
      go_ret
      exact ⟨rfl, HB5.out⟩
  · have h64z : ¬ (n : Int) ≤ 64 := by omega
    go_wp2_with fail
    go_ret
    exact ⟨rfl, HB1.out⟩
end Go.Proofs.Ytdfbfhejigifoaa
