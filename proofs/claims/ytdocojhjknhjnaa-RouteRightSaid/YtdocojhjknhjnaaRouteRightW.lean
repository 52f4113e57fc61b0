/- The walk of RouteRight. -/
import Derived.Test.YtdocojhjknhjnaaRouteRefF
namespace Go.Proofs.Ytdocojhjknhjnaa
open Go.RowKit
set_option linter.unusedVariables false
open Route in
set_option maxRecDepth 8000 in
set_option maxHeartbeats 4000000 in
theorem route_right (A : Option Addr) (n c : Nat) (l : List Route.R) (a t b : Int) (w : World) (hrd : RdRoutes w A n l) (hwf : ∀ r ∈ l, r.wf) (hnc : n ≤ c) (hc : c ≤ 9223372036854775807) (a0 : 0 ≤ a) (a1 : a ≤ 4294967295) (t0 : 0 ≤ t) (t1 : t ≤ 4294967295) :
    Calls Try.prog 7 #[.slice A n c, .int .u32 a, .int .u32 t, .int .i64 b] w fun e w' => e = .returned (.bool true) ∧ Below w.heap.size w w' := by
  obtain ⟨m, hmin0, hm, hmc, _⟩ := min_named n 100
  have hmin : (if (100 : Int) < (n : Int) then (100 : Int) else (n : Int)) = (m : Int) := hmin0
  clear hmin0
  have hrm := hrd.take (m := m) hm
  have hwf' : ∀ r ∈ l.take m, r.wf := fun r h => hwf r (List.mem_of_mem_take h)
  generalize l.take m = l' at hrm hwf'
  have HWF := Lib.hid hwf'
  have hmcc : m ≤ c := by omega
  clear hwf hwf' hrd
  have kf := fun W h => find_spec A m c l' a W h HWF.out hmcc hc a0 a1
  have kr := fun W h => rtfind_spec A m c l' a W h HWF.out (by omega) a0 a1
  have kz := fun W h => zone_spec A m c l' a W h HWF.out hmcc hc a0 a1
  have krz := fun W h => rtzone_spec A m c l' a W h HWF.out (by omega) a0 a1
  have kg := fun W h => tright_spec A m c l' W h HWF.out hmcc hc
  have krg := fun W h => rtright_spec A m c l' W h HWF.out (by omega)
  have ki := fun W => in_spec a t b W a0 a1 t0 t1
  have kri := fun W => rin_spec a t b W a0 a1 t0 t1
  generalize findV l' a = r at kf kr
  obtain ⟨x0, x1, x2, x3⟩ := r
  have hcells : (R.mk x0 x1 x2 x3).cells.toArray = #[.int .u32 x0, .int .i64 x1, .int .i64 x2, .int .i64 x3] := rfl
  rw [hcells] at kf kr
  generalize findOk l' a = ok at kf kr
  generalize zoneV l' a = z at kz krz
  generalize rightB l' = q at kg krg
  generalize Net.inB a t b = inb at ki kri
  have s0 : (x0 == x0) = true := by simp
  have s1 : (x1 == x1) = true := by simp
  have s2 : (x2 == x2) = true := by simp
  have s3 : (x3 == x3) = true := by simp
  have s4 : (q == q) = true := by simp
  have s5 : (ok == ok) = true := by simp
  have s6 : (z == z) = true := by simp
  have s7 : (inb == inb) = true := by simp
  have K := Lib.hid (And.intro kf (And.intro kr (And.intro kz (And.intro krz (And.intro kg (And.intro krg (And.intro ki kri)))))))
  clear kf kr kz krz kg krg ki kri hcells
  go_enter Try.func7, Try.ntmps7
  go_wp2_with fail
  refine (route_awake _).mono ?_
  rintro e w1 ⟨rfl, hb1⟩
  have r1 := hrm.below hb1
  go_wp2_with fail
  refine (K.out.1 _ r1).mono ?_
  rintro e w2 ⟨rfl, hb2⟩
  have hbA : Below w1.heap.size w1 (w2.alloc (.cells #[.int .u32 x0, .int .i64 x1, .int .i64 x2, .int .i64 x3] 40)) := hb2.trans ((Below.refl _ _).alloc hb2.size _)
  have B9 : RCells (w2.alloc (.cells #[.int .u32 x0, .int .i64 x1, .int .i64 x2, .int .i64 x3] 40)) w2.heap.size (R.mk x0 x1 x2 x3).cells := RCells.new w2 _ 40
  have r2 := r1.below hbA
  go_wp2_with fail
  refine (K.out.2.1 _ r2).mono ?_
  rintro e w3 ⟨rfl, hb3⟩
  have hbB : Below (w2.alloc (.cells #[.int .u32 x0, .int .i64 x1, .int .i64 x2, .int .i64 x3] 40)).heap.size (w2.alloc (.cells #[.int .u32 x0, .int .i64 x1, .int .i64 x2, .int .i64 x3] 40)) (w3.alloc (.cells #[.int .u32 x0, .int .i64 x1, .int .i64 x2, .int .i64 x3] 40)) := hb3.trans ((Below.refl _ _).alloc hb3.size _)
  have B9' := B9.below hbB
  have B11 : RCells (w3.alloc (.cells #[.int .u32 x0, .int .i64 x1, .int .i64 x2, .int .i64 x3] 40)) w3.heap.size (R.mk x0 x1 x2 x3).cells := RCells.new w3 _ 40
  have r3 := r2.below hbB
  have hbT := bel_then (bel_then hb1 hbA) hbB
  go_wp2_with fail
  refine (K.out.2.2.2.2.1 _ r3).mono ?_
  rintro e w4 ⟨rfl, hb4⟩
  go_wp2_with fail
  refine (K.out.2.2.2.2.2.1 _ (r3.below hb4)).mono ?_
  rintro e w5 ⟨rfl, hb5⟩
  have hb45 := bel_then hb4 hb5
  obtain ⟨c0, c1, c2, c3⟩ := RCells.route (B9'.below hb45)
  obtain ⟨d0, d1, d2, d3⟩ := RCells.route (B11.below hb45)
  clear B9 B9' B11
  go_wp2_with fail
  refine (K.out.2.2.1 _ (r3.below hb45)).mono ?_
  rintro e w6 ⟨rfl, hb6⟩
  go_wp2_with fail
  refine (K.out.2.2.2.1 _ ((r3.below hb45).below hb6)).mono ?_
  rintro e w7 ⟨rfl, hb7⟩
  go_wp2_with fail
  refine (K.out.2.2.2.2.2.2.1 _).mono ?_
  rintro e w8 ⟨rfl, rfl⟩
  go_wp2_with fail
  refine (K.out.2.2.2.2.2.2.2 _).mono ?_
  rintro e w8 ⟨rfl, rfl⟩
  go_wp2
  go_ret
  exact ⟨rfl, bel_then (bel_then (bel_then hbT hb45) hb6) hb7⟩
theorem RouteRight_walk (A : Option Addr) (n c : Nat) (l : List Route.R) (a t b : Int) (w : World) (hrd : RdRoutes w A n l) (hwf : ∀ r ∈ l, r.wf) (hnc : n ≤ c) (hc : c ≤ 9223372036854775807) (wa : (Lit.int .u32 a).wf = true) (wt : (Lit.int .u32 t).wf = true) (wb : (Lit.int .i64 b).wf = true) :
    Calls Try.prog 7 #[.slice A n c, .int .u32 a, .int .u32 t, .int .i64 b] w fun e w' => e = .returned (.bool true) ∧ Below w.heap.size w w' :=
  route_right A n c l a t b w hrd hwf hnc hc (bounds_u32 wa).1 (bounds_u32 wa).2 (bounds_u32 wt).1 (bounds_u32 wt).2
end Go.Proofs.Ytdocojhjknhjnaa
