/- The walk of mac.right. -/
import Derived.Test.YtdnboohhplnnhaaDoorMacRing
import Derived.Test.YtdnboohhplnnhaaDoorBlkV
import Derived.Deep.RegionHeld3
namespace Go.Proofs.YtdnboohhplnnhaaDoor
open Go.RowKit
set_option linter.unusedVariables false
namespace Mac
def tooLong (l : List Int) : Bool := decide (128 < l.length)
def right (ls : List (List Int)) : Bool := decide (ls.length ≤ 2) && !(ls.any tooLong)
def at_ (ls : List (List Int)) (b : List Int) (n want : Int) : Int := if 2 < ls.length ∨ n < 1 ∨ 32 < n then -1 else idx (fun l => bits l b n == want) ls
end Mac
theorem mright1_spec (W : World) (k : Mac.Key) (hk : k.ok W) : Calls Tryd.prog 36 #[.slice k.A k.n k.c] W fun e w' => e = .returned (.bool (Mac.tooLong k.l)) ∧ Below W.heap.size W w' := by
  have hl := hk.rd.blen
  have HL := Lib.hid hl
  clear hl hk
  go_enter Tryd.func36, Tryd.ntmps36
  go_wp2
  go_ret
  refine ⟨ret_bool ?_, Below.refl _ _⟩
  unfold Mac.tooLong
  rw [HL.out, decide_eq_decide]
  omega
set_option maxHeartbeats 1000000 in
theorem mright_spec (A : Option Addr) (n c : Nat) (rs : List Mac.Key) (w : World) (hr : Mac.Ring w A n rs) (hbig : n ≤ 9223372036854775807) :
    Calls Tryd.prog 30 #[.slice A n c] w fun e w' => e = .returned (.bool (Mac.right (rs.map (·.l)))) ∧ Below w.heap.size w w' := by
  have eg : ∀ args w, (callFunc 36 args).run Tryd.prog w = .ok (.enter 36 args) w := enters_of Tryd.func36 (by kernel_rfl) rfl
  have hp : PredK 36 #[] (fun k => Mac.tooLong k.l) w := fun W k hk _ => mright1_spec W k hk
  have hc := containsK_spec 36 #[] (fun k => Mac.tooLong k.l) A n c rs w eg hp hr hbig
  have hl := hr.len
  have e : (rs.map (·.l)).any Mac.tooLong = rs.any (fun k => Mac.tooLong k.l) := by rw [List.any_map]; rfl
  unfold Mac.right
  rw [e, List.length_map, hl]
  generalize (rs.any fun k => Mac.tooLong k.l) = q at hc ⊢
  clear hp eg hr e hl
  by_cases h64 : n ≤ 2
  · have h1 : (n : Int) ≤ 2 := by omega
    have h2 : decide (n ≤ 2) = true := by simp [h64]
    rw [h2]
    go_enter Tryd.func30, Tryd.ntmps30
    go_wp2_with (go_at_call 28; refine (hc).mono ?_; rintro e w' ⟨rfl, hb'⟩)
    go_ret
    exact ⟨ret_bool (by simp), hb'⟩
  · have h1 : ¬ (n : Int) ≤ 2 := by omega
    have h2 : decide (n ≤ 2) = false := by simp; omega
    rw [h2]
    go_enter Tryd.func30, Tryd.ntmps30
    go_wp2
    go_ret
    exact ⟨ret_bool (by simp), Below.refl _ _⟩
theorem bel_al2 {w w' : World} (h : Below w.heap.size w w') (o : Obj) : Below w.heap.size w (w'.alloc o) := h.alloc h.size o
theorem bel_dr2 {B : Nat} {w w' : World} (h : Below B w w') : Below B w w'.drew := ⟨h.os, h.tape, h.output, h.size, h.block⟩
theorem bel_drN2 {B : Nat} {w w' : World} (h : Below B w w') (k : Nat) : Below B w (w'.drewN k) := ⟨h.os, h.tape, h.output, h.size, h.block⟩
end Go.Proofs.YtdnboohhplnnhaaDoor
