/- A ring in memory, its keys as long as they are. -/
import Derived.Test.YtpidpbjbgjkaaaaDoorMacRing
namespace Go.Proofs.YtpidpbjbgjkaaaaDoor
open Go.RowKit
set_option linter.unusedVariables false
namespace Mac
/-- a ring in memory, its keys as long as they are -/
structure Ring0 (w : World) (A : Option Addr) (n : Nat) (rs : List Key) : Prop where
  len : rs.length = n
  rd : Rd w 1 A n (rs.map Key.val)
  keys : ∀ k ∈ rs, Rd w 1 k.A k.n (bs k.l) ∧ isB k.l ∧ k.n ≤ 9223372036854775807
theorem Ring0.below {w w' : World} {A : Option Addr} {n : Nat} {rs : List Key} (h : Ring0 w A n rs) (hb : Below w.heap.size w w') : Ring0 w' A n rs := ⟨h.len, h.rd.below hb, fun k hk => ⟨(h.keys k hk).1.below hb, (h.keys k hk).2⟩⟩
theorem Ring0.ring {w : World} {A : Option Addr} {n : Nat} {rs : List Key} (h : Ring0 w A n rs) (hs : ∀ k ∈ rs, k.n ≤ 300) : Ring w A n rs := ⟨h.len, h.rd, fun k hk => ⟨(h.keys k hk).1, (h.keys k hk).2.1, by have := hs k hk; omega⟩⟩
theorem Ring0.cell {w : World} {A : Option Addr} {n : Nat} {rs : List Key} (h : Ring0 w A n rs) {j : Nat} (hj : j < n) : ∃ b off, ∃ k : Key, A = some ⟨b, off, Option.none⟩ ∧ b < w.heap.size ∧ w.cell? ⟨b, off + j, Option.none⟩ = some (.slice k.A k.n k.c) ∧ k ∈ rs ∧ Hid (rs[j]? = some k) := by
  have hl := h.len
  obtain ⟨b, off, e, hb, hc⟩ := h.rd.2 (by omega)
  refine ⟨b, off, rs[j], e, hb, hc j _ ?_, List.getElem_mem (by omega), Lib.hid (List.getElem?_eq_getElem (by omega))⟩
  rw [List.getElem?_map, List.getElem?_eq_getElem (by omega)]
  rfl
end Mac
end Go.Proofs.YtpidpbjbgjkaaaaDoor
