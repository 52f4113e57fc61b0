/- Digests are bytes; their first bits. -/
import Derived.Test.YtpidpbjbgjkaaaaDoorShaSum
namespace Go.Proofs.YtpidpbjbgjkaaaaDoor
open Go.RowKit
set_option linter.unusedVariables false
namespace Sha
theorem all_ok (l : List Int) (n : Nat) : (all first l n).ok := first_ok.all l n
theorem word4_isB {x : Int} (h0 : 0 ≤ x) (h1 : x ≤ 4294967295) : isB (word4 x) := by
  intro y hy
  simp only [word4, List.mem_cons, List.not_mem_nil, or_false] at hy
  rcases hy with rfl | rfl | rfl | rfl <;> omega
theorem bytes_isB {V : V} (h : V.ok) : isB (bytes V) := by
  intro y hy
  unfold bytes at hy
  simp only [List.mem_append] at hy
  rcases hy with ((((((hy | hy) | hy) | hy) | hy) | hy) | hy) | hy
  · exact word4_isB h.a.1 h.a.2 y hy
  · exact word4_isB h.b.1 h.b.2 y hy
  · exact word4_isB h.c.1 h.c.2 y hy
  · exact word4_isB h.d.1 h.d.2 y hy
  · exact word4_isB h.e.1 h.e.2 y hy
  · exact word4_isB h.f.1 h.f.2 y hy
  · exact word4_isB h.g.1 h.g.2 y hy
  · exact word4_isB h.h.1 h.h.2 y hy
theorem sum_isB (l : List Int) : isB (sum l) := bytes_isB (all_ok _ _)
theorem sum_len (l : List Int) : (sum l).length = 32 := rfl
/-- the first bits of a digest -/
def bits (l : List Int) (n : Int) : Int := if n < 1 ∨ 32 < n then 0 else wordAt (sum l) 0 / 2 ^ (32 - n).toNat
end Sha
theorem Below.drewN {B : Nat} {a w : World} (h : Below B a w) (k : Nat) : Below B a (w.drewN k) := ⟨h.os, h.tape, h.output, h.size, h.block⟩
end Go.Proofs.YtpidpbjbgjkaaaaDoor
