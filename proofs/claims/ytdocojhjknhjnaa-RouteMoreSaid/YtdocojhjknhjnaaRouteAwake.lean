/- The walks of route.Zone, of the fixed answers of route, and of RouteEnds. -/
import Derived.Test.YtdocojhjknhjnaaRouteFind
namespace Go.Proofs.Ytdocojhjknhjnaa
open Go.RowKit
set_option linter.unusedVariables false
open Route in
theorem zone_spec (A : Option Addr) (n c : Nat) (l : List Route.R) (a : Int) (w : World) (hrd : RdRoutes w A n l) (hwf : ∀ r ∈ l, r.wf) (hnc : n ≤ c) (hc : c ≤ 9223372036854775807) (a0 : 0 ≤ a) (a1 : a ≤ 4294967295) :
    Calls Try.prog 24 #[.slice A n c, .int .u32 a] w fun e w' => e = .returned (.int .i64 (zoneV l a)) ∧ Below w.heap.size w w' := by
  have hf := find_spec A n c l a w hrd hwf hnc hc a0 a1
  unfold zoneV
  generalize findV l a = r at hf ⊢
  obtain ⟨r1, r2, r3, r4⟩ := r
  have hcells : (R.mk r1 r2 r3 r4).cells.toArray = #[.int .u32 r1, .int .i64 r2, .int .i64 r3, .int .i64 r4] := rfl
  rw [hcells] at hf
  cases hq : findOk l a
  · rw [hq] at hf
    clear hcells
    go_enter Try.func24, Try.ntmps24
    go_wp2_with (go_at_call 20; refine (hf).mono ?_; rintro e w1 ⟨rfl, hb1⟩)
    go_ret
    exact ⟨ret_int (by simp), hb1.trans ((Below.refl _ _).alloc hb1.size _)⟩
  · rw [hq] at hf
    clear hcells
    go_enter Try.func24, Try.ntmps24
    go_wp2_with (go_at_call 20; refine (hf).mono ?_; rintro e w1 ⟨rfl, hb1⟩)
    go_ret
    exact ⟨ret_int (by simp), hb1.trans ((Below.refl _ _).alloc hb1.size _)⟩
theorem tcells_len : ∀ (l : List Route.R), (tcells l).length = l.length * 4
  | [] => rfl
  | r :: t => by
    have := tcells_len t
    simp only [tcells, List.flatMap_cons, List.length_append, List.length_cons] at this ⊢
    rw [this]
    have hc : r.cells.length = 4 := rfl
    omega
theorem RdRoutes.lit (w : World) (e : TypeId) (l : List Route.R) (h : l.length ≤ 9223372036854775807) : RdRoutes (w.alloc (.cells (tcells l).toArray e)) (some ⟨w.heap.size, 0, none⟩) l.length l :=
  .of_rd ⟨tcells_len l, fun _ => ⟨_, _, rfl, by simp, fun j u hu => by rw [box_cell]; simpa using hu⟩⟩ rfl h
def Route.l1 : Route.R := ⟨167772160, 8, 0, 1500⟩
def Route.l2 : Route.R := ⟨167837696, 16, 2, 1500⟩
open Route in
set_option maxHeartbeats 1000000 in
theorem route_awake (w : World) : Calls Try.prog 19 #[] w fun e w' => e = .returned (.bool true) ∧ Below w.heap.size w w' := by
  obtain ⟨W, hW⟩ : ∃ W, W = w.alloc (.cells #[.int .u32 167772160, .int .i64 8, .int .i64 0, .int .i64 1500, .int .u32 167837696, .int .i64 16, .int .i64 2, .int .i64 1500] 40) := ⟨_, rfl⟩
  have hb : Below w.heap.size w W := by rw [hW]; exact (Below.refl _ _).alloc (Nat.le_refl _) _
  have hr : RdRoutes W (some ⟨w.heap.size, 0, none⟩) 2 [l1, l2] := by rw [hW]; exact RdRoutes.lit w 40 [l1, l2] (by decide)
  have hwf : ∀ r ∈ [l1, l2], r.wf := by
    intro r hr
    simp only [List.mem_cons, List.not_mem_nil, or_false] at hr
    rcases hr with rfl | rfl <;> (unfold R.wf; decide)
  have q1 : (findV [l1, l2] 167838211).cells.toArray = #[.int .u32 167837696, .int .i64 16, .int .i64 2, .int .i64 1500] := by rw [show findV [l1, l2] 167838211 = l2 by decide]; rfl
  have q2 : findOk [l1, l2] 167838211 = true := by decide
  have q3 : zoneV [l1, l2] 167903747 = 0 := by decide
  have q4 : zoneV [l1, l2] 1 = -1 := by decide
  have q5 : rightB [l1, l2] = true := by decide
  go_enter Try.func19, Try.ntmps19
  go_wp2_with fail
  rw [← hW]
  refine (find_spec _ 2 2 _ 167838211 _ hr hwf (by decide) (by decide) (by decide) (by decide)).mono ?_
  rw [q1, q2]
  rintro e w1 ⟨rfl, hb1⟩
  have hb2 : Below W.heap.size W (w1.alloc (.cells #[.int .u32 167837696, .int .i64 16, .int .i64 2, .int .i64 1500] 40)) := hb1.trans ((Below.refl _ _).alloc hb1.size _)
  go_wp2_with fail
  refine (zone_spec _ 2 2 _ 167903747 _ (hr.below hb2) hwf (by decide) (by decide) (by decide) (by decide)).mono ?_
  rw [q3]
  rintro e w2 ⟨rfl, hb3⟩
  go_wp2_with fail
  refine (zone_spec _ 2 2 _ 1 _ ((hr.below hb2).below hb3) hwf (by decide) (by decide) (by decide) (by decide)).mono ?_
  rw [q4]
  rintro e w3 ⟨rfl, hb4⟩
  go_wp2_with fail
  refine (tright_spec _ 2 2 _ _ (((hr.below hb2).below hb3).below hb4) hwf (by decide) (by decide)).mono ?_
  rw [q5]
  rintro e w4 ⟨rfl, hb5⟩
  go_wp2
  go_ret
  exact ⟨rfl, bel_then (bel_then (bel_then (bel_then hb hb2) hb3) hb4) hb5⟩
end Go.Proofs.Ytdocojhjknhjnaa
