/- The walks of wheel.New, Waits, Now, When. -/
import Derived.Test.YtlibhboibkajgaaWhHeap2
namespace Go.Proofs.Ytlibhboibkajgaa
open Go.RowKit
set_option linter.unusedVariables false
set_option linter.unusedSimpArgs false
section
variable {w w' : World} {L : Loc} {c : Nat} {es : List Mi.E} {ck : Nat} {l : List Wh.Al} {now : Int}
theorem WM.waits (h : WM w L c es ck l now) :
    Calls Try.prog 12 #[.pointer (some ⟨L.gw, 0, none⟩)] w fun e w' => e = .returned (.int .i64 l.length) ∧ w = w' := by
  have HL := Lib.hid h.len_wm
  clear h
  go_enter Try.func12, Try.ntmps12
  go_wp2_with fail
  refine HL.out.mono ?_
  rintro e w1 ⟨rfl, rfl⟩
  go_wp2_with fail
  go_ret
  exact ⟨rfl, rfl⟩
theorem waits_nil (w : World) : Calls Try.prog 12 #[.pointer none] w fun e w' => e = .returned (.int .i64 0) ∧ w = w' := by
  go_enter Try.func12, Try.ntmps12
  go_wp2_with fail
  go_ret
  exact ⟨rfl, rfl⟩
theorem WM.nowc (h : WM w L c es ck l now) :
    Calls Try.prog 19 #[.pointer (some ⟨L.gw, 0, none⟩)] w fun e w' => e = .returned (.int .i64 now) ∧ w = w' := by
  have c2 := h.cells.2.2
  clear h
  go_enter Try.func19, Try.ntmps19
  go_wp2_with fail
  go_ret
  exact ⟨rfl, rfl⟩
theorem now_nil (w : World) : Calls Try.prog 19 #[.pointer none] w fun e w' => e = .returned (.int .i64 0) ∧ w = w' := by
  go_enter Try.func19, Try.ntmps19
  go_wp2_with fail
  go_ret
  exact ⟨rfl, rfl⟩
theorem WM.look (h : WM w L c es ck l now) (k : Int) : (Instr.lookup 54 (.map (some L.gm)) (.int .i64 k) true).run Try.prog w = .ok (.tuple #[.int .i64 (((Wh.place l k).map (fun i => (i : Int))).getD 0), .bool ((Wh.place l k).map (fun i => (i : Int))).isSome]) w := by
  have := h.map.lookup (P := Try.prog) (t := 54) (k := 3) (e := 3) (by kernel_rfl) (by kernel_rfl) (by kernel_rfl) k
  rw [this, h.pl]
theorem WM.when_none (h : WM w L c es ck l now) {k : Int} (hk : Wh.place l k = none) :
    Calls Try.prog 13 #[.pointer (some ⟨L.gw, 0, none⟩), .int .i64 k] w fun e w' => e = .returned (.tuple #[.int .i64 0, .bool false]) ∧ w = w' := by
  have hlk := h.look k
  rw [hk] at hlk
  have hlk' : (Instr.lookup 54 (.map (some L.gm)) (.int .i64 k) true).run Try.prog w = .ok (.tuple #[.int .i64 0, .bool false]) w := hlk
  obtain ⟨c0, c1, c2⟩ := h.cells
  clear h hlk
  go_enter Try.func13, Try.ntmps13
  go_wp2_with fail
  go_ret2
  exact ⟨rfl, rfl⟩
theorem WM.when_some (h : WM w L c es ck l now) {k : Int} {i : Nat} (hk : Wh.place l k = some i) :
    Calls Try.prog 13 #[.pointer (some ⟨L.gw, 0, none⟩), .int .i64 k] w fun e w' => e = .returned (.tuple #[.int .i64 (Wh.al l i).t, .bool true]) ∧ w = w' := by
  have hlk := h.look k
  rw [hk] at hlk
  have hlk' : (Instr.lookup 54 (.map (some L.gm)) (.int .i64 k) true).run Try.prog w = .ok (.tuple #[.int .i64 i, .bool true]) w := hlk
  obtain ⟨hi, hik⟩ := Wh.place_some hk
  obtain ⟨gr, rest, hg, hR, h1, h2, h3⟩ := h.arow (by omega)
  obtain ⟨c0, c1, c2⟩ := h.cells
  have hA : L.A = some ⟨gr, 0, none⟩ := by unfold Loc.A; rw [hg]; rfl
  rw [hA] at c0
  obtain ⟨x0, x1⟩ := hR.cells hi
  have hiz : (i : Int) < (l.length : Int) := by omega
  have hs := h.sm
  clear h hlk hR hk hik
  go_enter Try.func13, Try.ntmps13
  go_wp2_with fail
  go_ret2
  exact ⟨rfl, rfl⟩
theorem when_nil (k : Int) (w : World) : Calls Try.prog 13 #[.pointer none, .int .i64 k] w fun e w' => e = .returned (.tuple #[.int .i64 0, .bool false]) ∧ w = w' := by
  go_enter Try.func13, Try.ntmps13
  go_wp2_with fail
  go_ret2
  exact ⟨rfl, rfl⟩
end
theorem wnew_spec (w : World) : Calls Try.prog 8 #[] w fun e w' => ∃ gw gm, e = .returned (.pointer (some ⟨gw, 0, none⟩)) ∧ w.heap.size ≤ gw ∧ w.heap.size ≤ gm ∧ Below w.heap.size w w' ∧ WM w' ⟨gw, none, gm⟩ 0 [] 0 [] 0 := by
  have hmk : (Instr.makeMap 54 none).run Try.prog w = .ok (.map (some w.heap.size)) (w.alloc (.map #[] 0)) := by kernel_rfl
  go_enter Try.func8, Try.ntmps8
  go_wp2_with fail
  go_ret
  have hb : Below w.heap.size w (w.alloc (.map #[] 0)) := (Below.refl _ _).alloc (Nat.le_refl _) _
  refine ⟨w.heap.size + 1, w.heap.size, rfl, by omega, Nat.le_refl _, bel_al2 hb _, ⟨BlkV.new_at _ _ _ (by simp), ⟨rfl, Or.inl ⟨rfl, rfl⟩⟩, ⟨?_, ⟨by simp, by simp, by simp⟩⟩, by simp, fun k => rfl, by simp⟩⟩
  exact (((Below.refl _ (w.alloc (.map #[] 0))).alloc (Nat.le_refl _) _).block w.heap.size (by simp)).trans (heap_alloc_new w _)
end Go.Proofs.Ytlibhboibkajgaa
