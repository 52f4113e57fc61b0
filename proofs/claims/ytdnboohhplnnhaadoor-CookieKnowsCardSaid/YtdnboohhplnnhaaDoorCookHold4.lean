/- CookieKnows: its walk at arguments that came in. -/
import Derived.Test.YtdnboohhplnnhaaDoorCookLaw4
import Derived.Test.YtdnboohhplnnhaaDoorCookOpen
namespace Go.Proofs.YtdnboohhplnnhaaDoor
open Go.RowKit
set_option linter.unusedVariables false
theorem cell_lt {w : World} {g i : Nat} {v : Value} (h : w.cell? ⟨g, i, none⟩ = some v) : g < w.heap.size := by
  rcases Nat.lt_or_ge g w.heap.size with h1 | h1
  · exact h1
  · exfalso
    unfold World.cell? at h
    rw [Array.getElem?_eq_none h1] at h
    simp at h
set_option maxRecDepth 12000 in
set_option maxHeartbeats 1000000 in
theorem cookieknows_early (A : Option Addr) (n c : Nat) (B : Option Addr) (m d : Nat) (t : Cook.Tup) (sq ep mss ot : Int) (later : Bool) (w : World) (hT : Tabs w)
    (h : 128 < n ∨ 128 < m ∨ ep < 0 ∨ 2147483647 ≤ ep) :
    Calls Tryd.prog 6 #[.slice A n c, .slice B m d, .agg #[.int .i64 t.proto, .int .u32 t.src, .int .i64 t.sport, .int .u32 t.dst, .int .i64 t.dport], .int .u32 sq, .int .i64 ep, .int .i64 mss, .bool later, .int .u32 ot] w fun e w' => e = .returned (.bool true) ∧ Below w.heap.size w w' := by
  obtain ⟨W, hW⟩ : ∃ W, W = w.alloc (.cells #[.int .i64 t.proto, .int .u32 t.src, .int .i64 t.sport, .int .u32 t.dst, .int .i64 t.dport] 25) := ⟨_, rfl⟩
  have hbW : Below w.heap.size w W := by rw [hW]; exact (Below.refl _ _).alloc (Nat.le_refl _) _
  have HA := Lib.hid (cook_awake W (hT.below hbW))
  clear hT
  rcases (show (128 : Int) < (n : Int) ∨ (¬ (128 : Int) < (n : Int) ∧ (128 : Int) < (m : Int)) ∨ (¬ (128 : Int) < (n : Int) ∧ ¬ (128 : Int) < (m : Int) ∧ ep < 0) ∨ (¬ (128 : Int) < (n : Int) ∧ ¬ (128 : Int) < (m : Int) ∧ ¬ ep < 0 ∧ (2147483647 : Int) ≤ ep) by omega) with g1 | ⟨g1, g2⟩ | ⟨g1, g2, g3⟩ | ⟨g1, g2, g3, g4⟩
  all_goals
    go_enter Tryd.func6, Tryd.ntmps6
    go_upto_region 1 with (fail)
    rw [← hW]
    clear hW
    go_wp2_with fail
    refine HA.out.mono ?_
    rintro e w1 ⟨rfl, hb1⟩
    have hbF := bel_then hbW hb1
    clear HA hb1
    go_wp2_with fail
    go_ret
    exact ⟨rfl, hbF⟩
theorem CookieKnows_walk (A : Option Addr) (n c : Nat) (l : List Int) (B : Option Addr) (m d : Nat) (lb : List Int) (t : Cook.Tup) (sq ep mss : Int) (later : Bool) (ot : Int) (w : World) (hT : Tabs w) (hK : TabK w) (hR : Rd w 1 A n (bs l)) (hB : isB l) (hnc : n ≤ c) (hc : c ≤ 9223372036854775807) (hRb : Rd w 1 B m (bs lb)) (hBb : isB lb) (hmd : m ≤ d) (hd : d ≤ 9223372036854775807) (hw : t.wf) (ws : (Lit.int .u32 sq).wf = true) (we : (Lit.int .i64 ep).wf = true) (wm : (Lit.int .i64 mss).wf = true) (wo : (Lit.int .u32 ot).wf = true) :
    Calls Tryd.prog 6 #[.slice A n c, .slice B m d, .agg #[.int .i64 t.proto, .int .u32 t.src, .int .i64 t.sport, .int .u32 t.dst, .int .i64 t.dport], .int .u32 sq, .int .i64 ep, .int .i64 mss, .bool later, .int .u32 ot] w fun e w' => e = .returned (.bool true) ∧ Below w.heap.size w w' := by
  obtain ⟨s0, s1⟩ := bounds_u32 ws
  obtain ⟨o0, o1⟩ := bounds_u32 wo
  by_cases h : 128 < n ∨ 128 < m ∨ ep < 0 ∨ 2147483647 ≤ ep
  · exact cookieknows_early A n c B m d t sq ep mss ot later w hT h
  · exact cookieknows_walk A n c l B m d lb t hw sq ep mss ot later s0 s1 o0 o1 w hT hK hR hB hRb hBb hnc hc hmd hd (by omega) (by omega) (by omega) (by omega)
end Go.Proofs.YtdnboohhplnnhaaDoor
