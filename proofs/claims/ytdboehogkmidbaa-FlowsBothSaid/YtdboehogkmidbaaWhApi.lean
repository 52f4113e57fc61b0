/- The walks of wheel.New, Waits, Now, When. -/
import Derived.Test.YtdboehogkmidbaaWhHeap2
namespace Go.Proofs.Ytdboehogkmidbaa
open Go.RowKit
set_option linter.unusedVariables false
set_option linter.unusedSimpArgs false
section
variable {w w' : World} {L : Loc} {c : Nat} {es : List Mi.E} {ck : Nat} {l : List Wh.Al} {now : Int}
theorem WM.nowc (h : WM w L c es ck l now) :
    Calls Try.prog 24 #[.pointer (some ⟨L.gw, 0, none⟩)] w fun e w' => e = .returned (.int .i64 now) ∧ w = w' := by
  have c2 := h.cells.2.2
  clear h
  go_enter Try.func24, Try.ntmps24
  go_wp2_with fail
  go_ret
  exact ⟨rfl, rfl⟩
theorem now_nil (w : World) : Calls Try.prog 24 #[.pointer none] w fun e w' => e = .returned (.int .i64 0) ∧ w = w' := by
  go_enter Try.func24, Try.ntmps24
  go_wp2_with fail
  go_ret
  exact ⟨rfl, rfl⟩
theorem WM.look (h : WM w L c es ck l now) (k : Int) : (Instr.lookup 74 (.map (some L.gm)) (.int .i64 k) true).run Try.prog w = .ok (.tuple #[.int .i64 (((Wh.place l k).map (fun i => (i : Int))).getD 0), .bool ((Wh.place l k).map (fun i => (i : Int))).isSome]) w := by
  have := h.map.lookup (P := Try.prog) (t := 74) (k := 3) (e := 3) (by kernel_rfl) (by kernel_rfl) (by kernel_rfl) k
  rw [this, h.pl]
end
theorem wnew_spec (w : World) : Calls Try.prog 17 #[] w fun e w' => ∃ gw gm, e = .returned (.pointer (some ⟨gw, 0, none⟩)) ∧ w.heap.size ≤ gw ∧ w.heap.size ≤ gm ∧ Below w.heap.size w w' ∧ WM w' ⟨gw, none, gm⟩ 0 [] 0 [] 0 := by
  have hmk : (Instr.makeMap 74 none).run Try.prog w = .ok (.map (some w.heap.size)) (w.alloc (.map #[] 0)) := by kernel_rfl
  go_enter Try.func17, Try.ntmps17
  go_wp2_with fail
  go_ret
  have hb : Below w.heap.size w (w.alloc (.map #[] 0)) := (Below.refl _ _).alloc (Nat.le_refl _) _
  refine ⟨w.heap.size + 1, w.heap.size, rfl, by omega, Nat.le_refl _, bel_al2 hb _, ⟨BlkV.new_at _ _ _ (by simp), ⟨rfl, Or.inl ⟨rfl, rfl⟩⟩, ⟨?_, ⟨by simp, by simp, by simp⟩⟩, by simp, fun k => rfl, by simp⟩⟩
  exact (((Below.refl _ (w.alloc (.map #[] 0))).alloc (Nat.le_refl _) _).block w.heap.size (by simp)).trans (heap_alloc_new w _)
end Go.Proofs.Ytdboehogkmidbaa
