/- The walks of flows.All, flows.New. -/
import Derived.Test.YtdboehogkmidbaaFlTick
namespace Go.Proofs.Ytdboehogkmidbaa
open Go.RowKit
set_option linter.unusedVariables false
set_option linter.unusedSimpArgs false
/-- the flows that are there, in their order -/
def Fl.used (sl : Fl.Sl) : List Fl.F := sl.filterMap id
theorem Fl.used_take_some {sl : Fl.Sl} {j : Nat} {f : Fl.F} (h : Fl.slot sl j = some f) : Fl.used (sl.take (j + 1)) = Fl.used (sl.take j) ++ [f] := by
  have hj := Fl.slot_lt h
  rw [Fl.slot_get hj] at h
  unfold Fl.used
  rw [List.take_succ_eq_append_getElem hj, List.filterMap_append, h]
  rfl
theorem Fl.used_take_none {sl : Fl.Sl} {j : Nat} (hj : j < sl.length) (h : Fl.slot sl j = none) : Fl.used (sl.take (j + 1)) = Fl.used (sl.take j) := by
  rw [Fl.slot_get hj] at h
  unfold Fl.used
  rw [List.take_succ_eq_append_getElem hj, List.filterMap_append, h]
  simp
theorem Fl.used_len (sl : Fl.Sl) : (Fl.used sl).length = Fl.count sl := by
  unfold Fl.used Fl.count
  induction sl with
  | nil => rfl
  | cons o t ih => cases o <;> simp [ih]
theorem Fl.used_mem {sl : Fl.Sl} {f : Fl.F} : f ∈ Fl.used sl ↔ ∃ i, Fl.slot sl i = some f := by
  unfold Fl.used
  rw [List.mem_filterMap]
  constructor
  · rintro ⟨o, ho, e⟩
    obtain ⟨i, hi, rfl⟩ := List.mem_iff_getElem.1 ho
    exact ⟨i, by rw [Fl.slot_get hi]; exact e⟩
  · rintro ⟨i, e⟩
    have hi := Fl.slot_lt e
    rw [Fl.slot_get hi] at e
    exact ⟨sl[i], List.getElem_mem hi, e⟩
section
variable {w w' : World} {X : FLoc} {sl : Fl.Sl} {At : Option Addr} {ct : Nat} {tb : List Idx.Cell} {c : Nat} {es : List Mi.E} {ck : Nat} {l : List Wh.Al} {now : Int} {many : Nat}
theorem FMem.slot_at (h : FMem w X sl At ct tb c es ck l now many) {j : Nat} (hj : j < sl.length) : w.rangeAt X.gl (j * 13) (Fl.scell (Fl.slot sl j)) := fun i v hv => h.slot hj hv
def AllR (w : World) (sl : Fl.Sl) (e : Ending) (w' : World) : Prop := ∃ B d, e = .returned (.slice B (Fl.used sl).length d) ∧ Rd w' 12 B (Fl.used sl).length (Fl.fcells (Fl.used sl)) ∧ Below w.heap.size w w'
set_option maxRecDepth 8000 in
set_option maxHeartbeats 8000000 in
theorem FMem.all (h : FMem w X sl At ct tb c es ck l now many) : Calls Try.prog 12 #[.pointer (some ⟨X.gs, 0, none⟩)] w (AllR w sl) := by
  have hsm := h.sm
  obtain ⟨c0, c1, c2, c3⟩ := h.cells
  have HM := Lib.hid h
  clear h c1 c2 c3
  go_enter Try.func12, Try.ntmps12
  go_wp2_with fail
  go_loopg [3, 13] (sl.length + 1) (fun gg s3 s13 wx => ∃ (j m : Nat) (B : Option Addr) (d : Nat), j ≤ sl.length ∧ sl.length - j < gg ∧ m ≤ j ∧ s13 = .int .i64 j ∧ s3 = .slice B m d ∧ Aside ((Fl.used (sl.take j)).length = m) ∧ Aside (wx.ownsRow w.heap.size 31 12 (.slice B m d) m (Fl.fcells (Fl.used (sl.take j)))) ∧ Aside (Below w.heap.size w wx))
  case atStart => exact ⟨0, 0, none, 0, by omega, by omega, by omega, rfl, rfl, rfl, ⟨rfl, Or.inl ⟨rfl, rfl⟩⟩, Below.refl _ _⟩
  case round =>
    obtain ⟨j, m, B, d, hj, hg, hmj, rfl, rfl, HL, HO, HB⟩ := hrel
    by_cases hjl : j < sl.length
    · have hjz : (j : Int) < (sl.length : Int) := by omega
      have hr := (HM.out.below HB.out).slot_at hjl
      have hba : Below wr.heap.size wr (wr.alloc (.cells #[.bool false, .int .i64 0, .int .u32 0, .int .i64 0, .int .u32 0, .int .i64 0, .int .i64 0, .int .u32 0, .int .i64 0, .int .u32 0, .int .i64 0, .int .i64 0, .int .i64 0] 62)) := bel_a (Below.refl _ _) _
      cases hs : Fl.slot sl j with
      | none =>
        rw [hs] at hr
        have HR : Hid (wr.rangeAt X.gl (j * 13) [.bool false, .int .i64 0, .int .u32 0, .int .i64 0, .int .u32 0, .int .i64 0, .int .i64 0, .int .u32 0, .int .i64 0, .int .u32 0, .int .i64 0, .int .i64 0, .int .i64 0]) := Lib.hid hr
        have HU := Lib.hid (Fl.used_take_none hjl hs)
        clear hs hr
        go_upto_region 7 with (first | (refine wpList_load_mid rfl 62 _ (by with_reducible rfl) X.gl (j * 13) (by rfl) [.bool false, .int .i64 0, .int .u32 0, .int .i64 0, .int .u32 0, .int .i64 0, .int .i64 0, .int .u32 0, .int .i64 0, .int .u32 0, .int .i64 0, .int .i64 0, .int .i64 0] _ HR.out Try.underlying62 rfl (slot_size rfl) ?_) | (refine wpList_stB 62 _ _ (by with_reducible rfl) rfl (by rfl) [.bool false, .int .i64 0, .int .u32 0, .int .i64 0, .int .u32 0, .int .i64 0, .int .i64 0, .int .u32 0, .int .i64 0, .int .u32 0, .int .i64 0, .int .i64 0, .int .i64 0] (by rfl) (by exact BlkV.new _ _ _) (by rfl) (slot_size (by rfl)) (by rfl) ?_; intro w2 N2 O2) | fail)
        have hb2 : Below wr.heap.size wr w2 := O2.bel (Nat.le_refl _) hba
        have u0 : w2.cell? ⟨wr.heap.size, 0, none⟩ = some (.bool false) := N2.cell rfl
        have HO2 := Lib.hid (own_below HO.out hb2)
        have HB2 := Lib.hid (bel_then HB.out hb2)
        clear N2 O2 hb2 HR HO HB hba
        go_wp2_with fail
        go_roundg (gk - 1)
        case measure => omega
        case rel => exact ⟨j + 1, m, B, d, by omega, by omega, by omega, by go_num, rfl, by rw [HU.out]; exact HL.out, by rw [HU.out]; exact HO2.out, HB2.out⟩
      | some f =>
        rw [hs] at hr
        have HR : Hid (wr.rangeAt X.gl (j * 13) [.bool true, .int .i64 f.th.pr, .int .u32 f.th.sr, .int .i64 f.th.sp, .int .u32 f.th.ds, .int .i64 f.th.dp, .int .i64 f.bk.pr, .int .u32 f.bk.sr, .int .i64 f.bk.sp, .int .u32 f.bk.ds, .int .i64 f.bk.dp, .int .i64 f.un, .int .i64 f.no]) := Lib.hid hr
        have HU := Lib.hid (Fl.used_take_some hs)
        clear hs hr
        go_upto_region 7 with (first | (refine wpList_load_mid rfl 62 _ (by with_reducible rfl) X.gl (j * 13) (by rfl) [.bool true, .int .i64 f.th.pr, .int .u32 f.th.sr, .int .i64 f.th.sp, .int .u32 f.th.ds, .int .i64 f.th.dp, .int .i64 f.bk.pr, .int .u32 f.bk.sr, .int .i64 f.bk.sp, .int .u32 f.bk.ds, .int .i64 f.bk.dp, .int .i64 f.un, .int .i64 f.no] _ HR.out Try.underlying62 rfl (slot_size rfl) ?_) | (refine wpList_stB 62 _ _ (by with_reducible rfl) rfl (by rfl) [.bool true, .int .i64 f.th.pr, .int .u32 f.th.sr, .int .i64 f.th.sp, .int .u32 f.th.ds, .int .i64 f.th.dp, .int .i64 f.bk.pr, .int .u32 f.bk.sr, .int .i64 f.bk.sp, .int .u32 f.bk.ds, .int .i64 f.bk.dp, .int .i64 f.un, .int .i64 f.no] (by rfl) (by exact BlkV.new _ _ _) (by rfl) (slot_size (by rfl)) (by rfl) ?_; intro w2 N2 O2) | fail)
        have hb2 : Below wr.heap.size wr w2 := O2.bel (Nat.le_refl _) hba
        have u0 : w2.cell? ⟨wr.heap.size, 0, none⟩ = some (.bool true) := N2.cell rfl
        have HRf : Hid (w2.rangeAt wr.heap.size 1 [.int .i64 f.th.pr, .int .u32 f.th.sr, .int .i64 f.th.sp, .int .u32 f.th.ds, .int .i64 f.th.dp, .int .i64 f.bk.pr, .int .u32 f.bk.sr, .int .i64 f.bk.sp, .int .u32 f.bk.ds, .int .i64 f.bk.dp, .int .i64 f.un, .int .i64 f.no]) := Lib.hid (N2.at (o := 1) (cs := [.int .i64 f.th.pr, .int .u32 f.th.sr, .int .i64 f.th.sp, .int .u32 f.th.ds, .int .i64 f.th.dp, .int .i64 f.bk.pr, .int .u32 f.bk.sr, .int .i64 f.bk.sp, .int .u32 f.bk.ds, .int .i64 f.bk.dp, .int .i64 f.un, .int .i64 f.no]) (fun i v hv => by rw [Nat.add_comm]; exact hv))
        have hba2 : Below w2.heap.size w2 (w2.alloc (.cells #[.int .i64 f.th.pr, .int .u32 f.th.sr, .int .i64 f.th.sp, .int .u32 f.th.ds, .int .i64 f.th.dp, .int .i64 f.bk.pr, .int .u32 f.bk.sr, .int .i64 f.bk.sp, .int .u32 f.bk.ds, .int .i64 f.bk.dp, .int .i64 f.un, .int .i64 f.no] 31)) := bel_a (Below.refl _ _) _
        have HOa := Lib.hid (own_below (own_below HO.out hb2) hba2)
        have HBa := Lib.hid (bel_then (bel_then HB.out hb2) hba2)
        clear N2 O2 hb2 HR HO HB hba hba2
        go_wp2_with (first | (refine wpList_load_mid rfl 31 _ (by with_reducible rfl) wr.heap.size 1 (by rfl) [.int .i64 f.th.pr, .int .u32 f.th.sr, .int .i64 f.th.sp, .int .u32 f.th.ds, .int .i64 f.th.dp, .int .i64 f.bk.pr, .int .u32 f.bk.sr, .int .i64 f.bk.sp, .int .u32 f.bk.ds, .int .i64 f.bk.dp, .int .i64 f.un, .int .i64 f.no] _ HRf.out Try.underlying31 rfl (flow_size rfl) ?_) | (at_builtin; refine wpList_app _ rfl (.tmp 19) (.tmp 22) 42 rfl w (by exact HBa.out) 31 _ 12 96 (by kernel_rfl) infoF rfl (by decide) (.slice B m d) m (Fl.fcells (Fl.used (sl.take j))) rfl (by exact HOa.out) (some ⟨w2.heap.size, 0, none⟩) 1 1 f.cells rfl (by exact rd_flow w2 f _) (Fl.f_one f) (by unfold maxLen; omega) (by omega) ?_; intro B3 d3 w4 hown4 hb4 hg4 hat4) | fail)
        rw [← Fl.fcells_snoc] at hown4
        have HO4 := Lib.hid hown4
        have HB4 := Lib.hid hb4
        clear hown4 hb4 hg4 hat4 HOa HBa
        go_roundg (gk - 1)
        case measure => omega
        case rel => exact ⟨j + 1, m + 1, B3, d3, by omega, by omega, by omega, by go_num, rfl, by rw [HU.out, List.length_append, HL.out]; rfl, by rw [HU.out]; exact HO4.out, HB4.out⟩
    · obtain rfl : j = sl.length := by omega
      have hL := HL.out
      have hO := HO.out
      rw [List.take_length] at hL hO
      have HL2 := Lib.hid hL
      have HO2 := Lib.hid hO
      clear hL hO hjl
      go_wp2_with fail
      go_ret
      exact ⟨B, d, by rw [HL2.out]; rfl, by rw [HL2.out]; exact Rd.of_own HO2.out, HB.out⟩
end
end Go.Proofs.Ytdboehogkmidbaa
