/- The walks of window.Expect and of the window laws' awake. -/
import Derived.Test.YtliibpajgdncpaaWinPass0
import Derived.Test.YtliibpajgdncpaaWinPass1
namespace Go.Proofs.Ytliibpajgdncpaa
open Go.RowKit
set_option linter.unusedVariables false
theorem PassR.out0 {a b : Win.S} {bad : Int} {w : World} {e : Ending} {w' : World} (h : PassR ((a, b), bad) false w e w') : e = .returned (.tuple #[.agg #[.int .u32 a.e, .int .u32 a.m, .int .u32 a.u, .int .i64 a.w, .int .i64 a.s, .bool a.h, .int .u32 b.e, .int .u32 b.m, .int .u32 b.u, .int .i64 b.w, .int .i64 b.s, .bool b.h], .int .i64 bad]) ∧ Below w.heap.size w w' := h
theorem PassR.out1 {a b : Win.S} {bad : Int} {w : World} {e : Ending} {w' : World} (h : PassR ((b, a), bad) true w e w') : e = .returned (.tuple #[.agg #[.int .u32 a.e, .int .u32 a.m, .int .u32 a.u, .int .i64 a.w, .int .i64 a.s, .bool a.h, .int .u32 b.e, .int .u32 b.m, .int .u32 b.u, .int .i64 b.w, .int .i64 b.s, .bool b.h], .int .i64 bad]) ∧ Below w.heap.size w w' := h
theorem win_expect1 (xe xm xu xw xs : Int) (xh : Bool) (ye ym yu yw ys : Int) (yh : Bool) (w : World) :
    Calls Try.prog 32 #[.agg #[.int .u32 xe, .int .u32 xm, .int .u32 xu, .int .i64 xw, .int .i64 xs, .bool xh, .int .u32 ye, .int .u32 ym, .int .u32 yu, .int .i64 yw, .int .i64 ys, .bool yh], .int .i64 1] w fun e w' => e = .returned (.int .u32 ye) ∧ Below w.heap.size w w' := by
  have hix := win_at w.heap.size 1 (by decide)
  go_enter Try.func32, Try.ntmps32
  go_wp2
  go_ret
  exact ⟨rfl, by repeat (first | exact Below.refl _ _ | refine Below.alloc ?_ (by simp) _)⟩
theorem opts_nil (w : World) : Tcp.OptsRd w none 0 [] := ⟨rfl, fun o h => by simp at h, fun h => absurd h (by omega)⟩
theorem none300 : ∀ o ∈ ([] : List Tcp.Opt), o.n ≤ 300 := fun o h => by simp at h
set_option maxRecDepth 8000 in
set_option maxHeartbeats 4000000 in
theorem win_awake (w : World) : Calls Try.prog 18 #[] w fun e w' => e = .returned (.bool true) ∧ Below w.heap.size w w' := by
  have HC1 : Hid (∀ w' : World, Calls Try.prog 20 #[.agg #[.int .u32 0, .int .u32 0, .int .u32 0, .int .i64 0, .int .i64 0, .bool false, .int .u32 0, .int .u32 0, .int .u32 0, .int .i64 0, .int .i64 0, .bool false], .int .i64 0, .agg #[.int .i64 0, .int .i64 0, .int .u32 100, .int .u32 0, .int .i64 2, .int .i64 1000, .int .i64 0, .slice none 0 0, .slice none 0 0]] w'
      fun e w'' => e = .returned (.tuple #[.agg #[.int .u32 101, .int .u32 101, .int .u32 100, .int .i64 1000, .int .i64 (-1), .bool true, .int .u32 0, .int .u32 0, .int .u32 0, .int .i64 0, .int .i64 0, .bool false], .int .i64 0]) ∧ Below w'.heap.size w' w'') := Lib.hid fun w' => by
    have h := win_pass0 0 0 0 0 0 false 0 0 0 0 0 false 0 0 100 0 2 1000 0 none 0 0 none 0 0 [] w' (opts_nil _) (by omega) none300 (by omega)
    rw [show Win.pass ⟨0, 0, 0, 0, 0, false⟩ ⟨0, 0, 0, 0, 0, false⟩ 100 0 1000 (State.size 0 2) (Win.scale []) (State.has 2 2) (State.has 2 16) = ((⟨101, 101, 100, 1000, -1, true⟩, ⟨0, 0, 0, 0, 0, false⟩), 0) by decide +kernel] at h
    exact h
  have HC2 : Hid (∀ w' : World, Calls Try.prog 20 #[.agg #[.int .u32 101, .int .u32 101, .int .u32 100, .int .i64 1000, .int .i64 (-1), .bool true, .int .u32 0, .int .u32 0, .int .u32 0, .int .i64 0, .int .i64 0, .bool false], .int .i64 1, .agg #[.int .i64 0, .int .i64 0, .int .u32 300, .int .u32 101, .int .i64 18, .int .i64 500, .int .i64 0, .slice none 0 0, .slice none 0 0]] w'
      fun e w'' => e = .returned (.tuple #[.agg #[.int .u32 101, .int .u32 601, .int .u32 101, .int .i64 1000, .int .i64 0, .bool true, .int .u32 301, .int .u32 301, .int .u32 300, .int .i64 500, .int .i64 0, .bool true], .int .i64 0]) ∧ Below w'.heap.size w' w'') := Lib.hid fun w' => by
    have h := win_pass1 101 101 100 1000 (-1) true 0 0 0 0 0 false 0 0 300 101 18 500 0 none 0 0 none 0 0 [] w' (opts_nil _) (by omega) none300 (by omega)
    rw [show Win.pass ⟨0, 0, 0, 0, 0, false⟩ ⟨101, 101, 100, 1000, -1, true⟩ 300 101 500 (State.size 0 18) (Win.scale []) (State.has 18 2) (State.has 18 16) = ((⟨301, 301, 300, 500, 0, true⟩, ⟨101, 601, 101, 1000, 0, true⟩), 0) by decide +kernel] at h
    exact h
  have HC3 : Hid (∀ w' : World, Calls Try.prog 20 #[.agg #[.int .u32 101, .int .u32 601, .int .u32 101, .int .i64 1000, .int .i64 0, .bool true, .int .u32 301, .int .u32 301, .int .u32 300, .int .i64 500, .int .i64 0, .bool true], .int .i64 0, .agg #[.int .i64 0, .int .i64 0, .int .u32 602, .int .u32 301, .int .i64 16, .int .i64 0, .int .i64 0, .slice none 0 0, .slice none 0 0]] w'
      fun e w'' => e = .returned (.tuple #[.agg #[.int .u32 101, .int .u32 601, .int .u32 101, .int .i64 1000, .int .i64 0, .bool true, .int .u32 301, .int .u32 301, .int .u32 300, .int .i64 500, .int .i64 0, .bool true], .int .i64 1]) ∧ Below w'.heap.size w' w'') := Lib.hid fun w' => by
    have h := win_pass0 101 601 101 1000 0 true 301 301 300 500 0 true 0 0 602 301 16 0 0 none 0 0 none 0 0 [] w' (opts_nil _) (by omega) none300 (by omega)
    rw [show Win.pass ⟨101, 601, 101, 1000, 0, true⟩ ⟨301, 301, 300, 500, 0, true⟩ 602 301 0 (State.size 0 16) (Win.scale []) (State.has 16 2) (State.has 16 16) = ((⟨101, 601, 101, 1000, 0, true⟩, ⟨301, 301, 300, 500, 0, true⟩), 1) by decide +kernel] at h
    exact h
  go_enter Try.func18, Try.ntmps18
  go_wp2_with fail
  refine (HC1.out _).mono ?_
  rintro e w1 ⟨rfl, hb1⟩
  go_wp2_with fail
  refine (HC2.out _).mono ?_
  rintro e w2 ⟨rfl, hb2⟩
  have Q := (BlkV.new w1 47 [.int .u32 101, .int .u32 101, .int .u32 100, .int .i64 1000, .int .i64 (-1), .bool true, .int .u32 0, .int .u32 0, .int .u32 0, .int .i64 0, .int .i64 0, .bool false]).below hb2
  have hbw : Below w.heap.size w w2 := (hb1.alloc hb1.size _).trans (hb2.mono (by have := hb1.size; simp; omega))
  have hs1 := hb1.size
  clear hb1 hb2 HC1 HC2
  obtain ⟨a0, a1, a2, a3, a4, a5, a6, a7, a8, a9, a10, a11⟩ := Q.twelve
  obtain ⟨z0, z1, z2, z3, z4, z5, z6, z7, z8, z9, z10, z11⟩ := Q.free12
  have hlt := Q.lt
  go_wp2_with fail
  refine (HC3.out _).mono ?_
  rintro e w3 ⟨rfl, hb3⟩
  have Q3 := (BlkV.put12 Q).below hb3
  have hbw3 : Below w.heap.size w w3 := (Below.put12 hbw hs1).trans (hb3.mono (by simp; omega))
  clear hbw hb3 Q HC3 a0 a1 a2 a3 a4 a5 a6 a7 a8 a9 a10 a11 z0 z1 z2 z3 z4 z5 z6 z7 z8 z9 z10 z11 hlt
  obtain ⟨a0, a1, a2, a3, a4, a5, a6, a7, a8, a9, a10, a11⟩ := Q3.twelve
  have hlt := Q3.lt
  go_wp2_with fail
  refine (win_expect1 _ _ _ _ _ _ _ _ _ _ _ _ _).mono ?_
  rintro e w4 ⟨rfl, hb4⟩
  have hbF : Below w.heap.size w w4 := (hbw3.alloc (by omega) _).trans (hb4.mono (by simp; omega))
  go_wp2_with fail
  go_ret
  exact ⟨rfl, hbF⟩
end Go.Proofs.Ytliibpajgdncpaa
