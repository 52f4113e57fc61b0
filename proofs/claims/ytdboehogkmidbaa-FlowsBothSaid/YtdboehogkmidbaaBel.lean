/- Words that several layers' walks share: below behind an alloc or a draw; cells amid a block. No program in sight. -/
import Derived.Test.YtdboehogkmidbaaOwn
import Derived.Test.YtdboehogkmidbaaBlkV
namespace Go.Proofs.Ytdboehogkmidbaa
open Go.RowKit
set_option linter.unusedVariables false
theorem bel_al2 {w w' : World} (h : Below w.heap.size w w') (o : Obj) : Below w.heap.size w (w'.alloc o) := h.alloc h.size o
theorem bel_drN2 {B : Nat} {w w' : World} (h : Below B w w') (k : Nat) : Below B w (w'.drewN k) := ⟨h.os, h.tape, h.output, h.size, h.block⟩
theorem bel_dr2 {B : Nat} {w w' : World} (h : Below B w w') : Below B w w'.drew := ⟨h.os, h.tape, h.output, h.size, h.block⟩
section
variable {w w' : World} {g : Nat} {T : TypeId}
theorem setCells_mid : ∀ (vs pre mid post : List Value) (w : World), BlkV w g T (pre ++ mid ++ post) → mid.length = vs.length → BlkV (w.setCells g pre.length vs) g T (pre ++ vs ++ post)
  | [], pre, mid, post, w, h, hl => by
    obtain rfl : mid = [] := List.eq_nil_of_length_eq_zero hl
    simpa [World.setCells] using h
  | v :: vs, pre, mid, post, w, h, hl => by
    cases mid with
    | nil => cases hl
    | cons u us =>
      have h1 := BlkV.put h pre.length v
      have e : (pre ++ u :: us ++ post).set pre.length v = (pre ++ [v]) ++ us ++ post := by simp
      rw [e] at h1
      have h2 := setCells_mid vs (pre ++ [v]) us post _ h1 (by simpa using hl)
      simp only [List.length_append, List.length_cons, List.length_nil] at h2
      show BlkV ((w.setCell ⟨g, pre.length, none⟩ v).setCells g (pre.length + 1) vs) g T _
      simpa using h2
end
end Go.Proofs.Ytdboehogkmidbaa
