/- The walk of the shifter's back. -/
import Derived.Test.YtklefgcackchiaaProxOpt
namespace Go.Proofs.Ytklefgcackchiaa
open Go.RowKit
set_option linter.unusedVariables false
set_option linter.unusedSimpArgs false
set_option maxHeartbeats 4000000 in
theorem pback_stamp (k sq st : Int) (A : Option Addr) (n c : Nat) (l : List Int) (base : Nat) (w : World) (hown : w.ownsRow base 5 1 (.slice A n c) n (bs l)) (hB : isB l) (hs0 : 0 ≤ st) (hs1 : st ≤ 4294967295) (hk : k = 8) (hn : n = 8) :
    Calls Try.prog 18 #[.agg #[.int .u32 sq, .int .u32 st], .agg #[.int .i64 k, .slice A n c]] w (ThereR base A n c (Prox.sh ((-st) % 4294967296) (l.take 4) ++ l.drop 4) w) := by
  have hl : l.length = n := by have := hown.1; rw [bs_len] at this; omega
  obtain ⟨W, hW⟩ : ∃ W, W = (w.alloc (.cells #[.int .u32 sq, .int .u32 st] 48)).alloc (.cells #[.int .i64 k, .slice A n c] 41) := ⟨_, rfl⟩
  have hbW : Below w.heap.size w W := (by rw [hW]; exact ((Below.refl _ _).alloc (Nat.le_refl _) _).alloc (by simp) _)
  have B0 : BlkV W w.heap.size 48 [.int .u32 sq, .int .u32 st] := (by rw [hW]; exact (BlkV.new w _ _).alloc _)
  have B1 : BlkV W (w.heap.size + 1) 41 [.int .i64 k, .slice A n c] := (by rw [hW]; exact BlkV.new_at (w.alloc (.cells #[.int .u32 sq, .int .u32 st] 48)) _ _ (by simp))
  obtain ⟨g, hA, hg0, hg1, hg2, hg3⟩ := own_blk hown (by omega)
  subst hA
  subst hn
  have hq8 : (k == 8) = true := by rw [hk]; rfl
  have OW := own_below hown hbW
  obtain ⟨m, hm⟩ : ∃ m, (-st) % 4294967296 = m := ⟨_, rfl⟩
  have hm' : IntKind.u32.wrap (-st) = m := by rw [IntKind.wrap_u32]; exact hm
  have HADD : Hid (Calls Try.prog 21 #[.slice (some ⟨g, 0, none⟩) 8 c, .int .u32 m] W fun e w' => e = .returned (.tuple #[]) ∧ w'.ownsRow base 5 1 (.slice (some ⟨g, 0, none⟩) 8 c) 8 (bs (Prox.sh m (l.take 4) ++ l.drop 4)) ∧ W.grownBy w' (some g)) := Lib.hid (by
    have h := padd_spec g 0 8 c l m base W OW hB (by omega) (by omega) hg2 (by omega) (by omega)
    rw [List.take_zero, List.drop_zero, List.nil_append, Prox.sh1_app m l (by omega)] at h
    exact h)
  have c0 := (B1).cell (i := 0) rfl
  have c1 := (B1).cell (i := 1) rfl
  have d1 := (B0).cell (i := 1) rfl
  rw [hm]
  clear hk hl hown
  go_enter Try.func18, Try.ntmps18
  go_upto_region 1 with (fail)
  rw [← hW]
  clear hW
  go_wp2_with fail
  refine HADD.out.mono ?_
  rintro e w5 ⟨rfl, o5, q5⟩
  have OY := Lib.hid o5
  have hgy := grown_trans (below_grown hbW (some g)) q5
  clear o5 q5 HADD c0 c1 d1 B0 B1
  go_wp2_with fail
  go_end0
  exact ⟨rfl, OY.out, hgy⟩
set_option maxHeartbeats 4000000 in
theorem pback_none (k sq st : Int) (A : Option Addr) (n c : Nat) (l : List Int) (base : Nat) (w : World) (hown : w.ownsRow base 5 1 (.slice A n c) n (bs l)) (h8 : ¬ (k = 8 ∧ n = 8)) :
    Calls Try.prog 18 #[.agg #[.int .u32 sq, .int .u32 st], .agg #[.int .i64 k, .slice A n c]] w (ThereR base A n c l w) := by
  obtain ⟨W, hW⟩ : ∃ W, W = (w.alloc (.cells #[.int .u32 sq, .int .u32 st] 48)).alloc (.cells #[.int .i64 k, .slice A n c] 41) := ⟨_, rfl⟩
  have hbW : Below w.heap.size w W := (by rw [hW]; exact ((Below.refl _ _).alloc (Nat.le_refl _) _).alloc (by simp) _)
  have B0 : BlkV W w.heap.size 48 [.int .u32 sq, .int .u32 st] := (by rw [hW]; exact (BlkV.new w _ _).alloc _)
  have B1 : BlkV W (w.heap.size + 1) 41 [.int .i64 k, .slice A n c] := (by rw [hW]; exact BlkV.new_at (w.alloc (.cells #[.int .u32 sq, .int .u32 st] 48)) _ _ (by simp))
  have OW := Lib.hid (own_below hown hbW)
  have c0 := (B1).cell (i := 0) rfl
  have c1 := (B1).cell (i := 1) rfl
  clear hown B0 B1
  rcases (show (k ≠ 8) ∨ (k = 8 ∧ n ≠ 8) by omega) with g1 | ⟨g1, g2⟩
  case' inl => have q1 : (k == 8) = false := by simp [g1]
  case' inr =>
    have q1 : (k == 8) = true := by rw [g1]; rfl
    have q3 : ((n : Int) == 8) = false := by simp; omega
  all_goals
    clear g1
    go_enter Try.func18, Try.ntmps18
    go_upto_region 1 with (fail)
    rw [← hW]
    clear hW
    go_wp2_with fail
    go_end0
    exact ⟨rfl, OW.out, below_grown hbW _⟩
theorem pback_spec (k sq st : Int) (A : Option Addr) (n c : Nat) (l : List Int) (base : Nat) (w : World) (hown : w.ownsRow base 5 1 (.slice A n c) n (bs l)) (hB : isB l) (ht0 : 0 ≤ st) (ht1 : st ≤ 4294967295) :
    Calls Try.prog 18 #[.agg #[.int .u32 sq, .int .u32 st], .agg #[.int .i64 k, .slice A n c]] w (ThereR base A n c (Prox.back ((-st) % 4294967296) (k, l)).2 w) := by
  have hl : l.length = n := by have := hown.1; rw [bs_len] at this; omega
  unfold Prox.back
  simp only
  rw [hl]
  by_cases h8 : k = 8 ∧ n = 8
  · rw [if_pos h8]
    exact pback_stamp k sq st A n c l base w hown hB ht0 ht1 h8.1 h8.2
  · rw [if_neg h8]
    exact pback_none k sq st A n c l base w hown h8
end Go.Proofs.Ytklefgcackchiaa
