/- The walk of RulesAny. -/
import Derived.Test.YtdocojhjknhjnaaRulesAwake
namespace Go.Proofs.Ytdocojhjknhjnaa
open Go.RowKit
set_option linter.unusedVariables false
def Rules.every (p a : Int) : Rules.Rule := ⟨-1, -1, p, 0, 0, 0, 0, 0, 65535, a⟩
theorem Net.in_all {x : Int} (h0 : 0 ≤ x) (h1 : x ≤ 4294967295) : Net.inB x 0 0 = true := by
  unfold Net.inB
  have : x / 4294967296 = 0 := by omega
  simp [this]
theorem Rules.every_fits (p a fr to : Int) (t : Rules.Tup) (ht : t.wf) : Rules.fitsB (Rules.every p a) fr to t = (!(p != 0 && p != t.proto) && Rules.withinB t.dport 0 65535) := by
  obtain ⟨⟨u0, u1⟩, v0, v1⟩ := ht
  unfold Rules.fitsB Rules.zonesB Rules.every
  simp only [Net.in_all u0 u1, Net.in_all v0 v1]
  simp
theorem Rules.every_right (p a : Int) (h0 : 0 ≤ p) (h1 : p ≤ 255) (ha : a = 1 ∨ a = 2) : Rules.rightB [Rules.every p a, Rules.every 0 a] = true := by
  unfold Rules.rightB Rules.mayB Rules.withinB Rules.every
  simp
  omega
theorem Rules.any_at (p a fr to : Int) (t : Rules.Tup) (ht : t.wf) (h0 : 1 ≤ p) (h1 : p ≤ 255) (ha : a = 1 ∨ a = 2) :
    Rules.askAt [Rules.every p a, Rules.every 0 a] fr to t = (if Rules.withinB t.dport 0 65535 = true then (if t.proto = p then 0 else 1) else -1) ∧
    Rules.askAct [Rules.every p a, Rules.every 0 a] fr to t = (if Rules.withinB t.dport 0 65535 = true then a else 1) := by
  unfold Rules.askAt Rules.askAct
  rw [Rules.every_right p a (by omega) h1 ha]
  have e1 := Rules.every_fits p a fr to t ht
  have e2 := Rules.every_fits 0 a fr to t ht
  simp only [idx, e1, e2]
  have hp : (p != 0) = true := by simp; omega
  cases hw : Rules.withinB t.dport 0 65535
  · simp
  · by_cases h : t.proto = p
    · subst h; simp [Rules.every]
    · have : (p != t.proto) = true := by simp; exact fun h' => h h'.symm
      simp [h, this, hp, Rules.every]
set_option maxHeartbeats 4000000 in
theorem rules_any (fr to : Int) (t : Rules.Tup) (pb : Int) (act : Bool) (w : World) (ht : t.wf) (hp0 : 0 ≤ pb) (hp1 : pb ≤ 255) :
    Calls Try.prog 5 #[.int .i64 fr, .int .i64 to, .agg #[.int .i64 t.proto, .int .u32 t.src, .int .i64 t.sport, .int .u32 t.dst, .int .i64 t.dport], .int .u8 pb, .bool act] w fun e w' => e = .returned (.bool true) ∧ Below w.heap.size w w' := by
  obtain ⟨W, hW⟩ : ∃ W, W = w.alloc (.cells #[.int .i64 t.proto, .int .u32 t.src, .int .i64 t.sport, .int .u32 t.dst, .int .i64 t.dport] 25) := ⟨_, rfl⟩
  have hbW : Below w.heap.size w W := by rw [hW]; exact (Below.refl _ _).alloc (Nat.le_refl _) _
  have Bt : RCells W w.heap.size t.cells := by rw [hW]; exact RCells.new w t.cells 25
  obtain ⟨p, hp⟩ : ∃ p, p = pb % 255 + 1 := ⟨_, rfl⟩
  have p0 : 1 ≤ p := by omega
  have p1 : p ≤ 255 := by omega
  go_enter Try.func5, Try.ntmps5
  go_wp2_with fail
  rw [← hW]
  refine (rules_awake _).mono ?_
  rintro e w1 ⟨rfl, hb1⟩
  obtain ⟨b0, b1, b2, b3, b4⟩ := (Bt.below hb1).five
  have hlt := (Bt.below hb1).1
  have hlt2 : w.heap.size < w1.heap.size + 1 := by omega
  have hlt3 : w.heap.size < w1.heap.size + 1 + 1 := by omega
  have hbT := bel_then hbW hb1
  have Bt1 := Bt.below hb1
  clear hW Bt
  have key : ∀ a, (a = 1 ∨ a = 2) → ∀ (o1 : Obj), Calls Try.prog 12 #[.slice (some ⟨w1.heap.size + 1 + 1, 0, none⟩) 2 2, .int .i64 fr, .int .i64 to, .agg #[.int .i64 t.proto, .int .u32 t.src, .int .i64 t.sport, .int .u32 t.dst, .int .i64 t.dport]]
      (((w1.alloc o1).alloc (.cells #[.int .i64 (-1), .int .i64 (-1), .int .i64 p, .int .u32 0, .int .u32 0, .int .i64 0, .int .i64 0, .int .i64 0, .int .i64 65535, .int .i64 a] 32)).alloc (.cells #[.int .i64 (-1), .int .i64 (-1), .int .i64 p, .int .u32 0, .int .u32 0, .int .i64 0, .int .i64 0, .int .i64 0, .int .i64 65535, .int .i64 a, .int .i64 (-1), .int .i64 (-1), .int .i64 0, .int .u32 0, .int .u32 0, .int .i64 0, .int .i64 0, .int .i64 0, .int .i64 65535, .int .i64 a] 32))
      fun e w' => e = .returned (.tuple #[.int .i64 (if Rules.withinB t.dport 0 65535 = true then a else 1), .int .i64 (if Rules.withinB t.dport 0 65535 = true then (if t.proto = p then 0 else 1) else -1)]) ∧ Below w1.heap.size w1 w' ∧ w'.cell? ⟨w1.heap.size + 1, 2, none⟩ = some (.int .i64 p) := by
    intro a ha o1
    obtain ⟨q1, q2⟩ := Rules.any_at p a fr to t ht p0 p1 ha
    rw [← q1, ← q2]
    obtain ⟨V, hV⟩ : ∃ V, V = (w1.alloc o1).alloc (.cells #[.int .i64 (-1), .int .i64 (-1), .int .i64 p, .int .u32 0, .int .u32 0, .int .i64 0, .int .i64 0, .int .i64 0, .int .i64 65535, .int .i64 a] 32) := ⟨_, rfl⟩
    rw [← hV]
    have hs : V.heap.size = w1.heap.size + 1 + 1 := by rw [hV]; simp
    have hbV : Below w1.heap.size w1 V := by rw [hV]; exact ((Below.refl _ _).alloc (Nat.le_refl _) _).alloc (by simp) _
    have hcV : V.cell? ⟨w1.heap.size + 1, 2, none⟩ = some (.int .i64 p) := by
      rw [hV]
      have := box_cell (w1.alloc o1) #[.int .i64 (-1), .int .i64 (-1), .int .i64 p, .int .u32 0, .int .u32 0, .int .i64 0, .int .i64 0, .int .i64 0, .int .i64 65535, .int .i64 a] 32 2
      rw [show (w1.alloc o1).heap.size = w1.heap.size + 1 by simp] at this
      exact this
    have hr := RdRow.lit V 32 [Rules.every p a, Rules.every 0 a] (by simp)
    rw [hs] at hr
    have hwf : ∀ r ∈ [Rules.every p a, Rules.every 0 a], r.wf := by
      intro r hr
      simp only [List.mem_cons, List.not_mem_nil, or_false] at hr
      rcases hr with rfl | rfl <;> (unfold Rules.Rule.wf Rules.every; simp)
    refine (ask_spec _ 2 2 _ fr to t _ hr hwf ht).mono fun e w' ⟨he, hb⟩ => ?_
    have hb' : Below V.heap.size V w' := bel_then ((Below.refl _ _).alloc (Nat.le_refl _) _) hb
    exact ⟨he, bel_then hbV hb', (hb'.cell (p := ⟨w1.heap.size + 1, 2, none⟩) (by show w1.heap.size + 1 < V.heap.size; omega)).trans hcV⟩
  have hp' : pb % 255 + 1 = p := hp.symm
  clear hp
  have k1 := key 1 (.inl rfl)
  have k2 := key 2 (.inr rfl)
  clear key
  by_cases d0 : 0 ≤ t.dport
  · by_cases d1 : t.dport ≤ 65535
    · have hw : Rules.withinB t.dport 0 65535 = true := by simp [Rules.withinB, d0, d1]
      rw [hw] at k1 k2
      simp only [if_true] at k1 k2
      by_cases hpq : t.proto = p
      · rw [if_pos hpq] at k1 k2
        have hpb : (t.proto == p) = true := by simp [hpq]
        clear hpq
        cases act
        all_goals
          clear hw
          go_wp2_with fail
          first
            | refine (k1 _).mono ?_
            | refine (k2 _).mono ?_
          rintro e w2 ⟨rfl, hb2, hc2⟩
          obtain ⟨b0, b1, b2, b3, b4⟩ := (Bt1.below hb2).five
          clear k1 k2
          go_wp2
          all_goals
            go_ret
            exact ⟨ret_bool (by first | rfl | (simp; done) | (simp_all; done) | (exfalso; omega) | (exfalso; simp_all; omega)), bel_then hbT hb2⟩
      · rw [if_neg hpq] at k1 k2
        have hpb : (t.proto == p) = false := by simp [hpq]
        clear hpq
        cases act
        all_goals
          clear hw
          go_wp2_with fail
          first
            | refine (k1 _).mono ?_
            | refine (k2 _).mono ?_
          rintro e w2 ⟨rfl, hb2, hc2⟩
          obtain ⟨b0, b1, b2, b3, b4⟩ := (Bt1.below hb2).five
          clear k1 k2
          go_wp2
          all_goals
            go_ret
            exact ⟨ret_bool (by first | rfl | (simp; done) | (simp_all; done) | (exfalso; omega) | (exfalso; simp_all; omega)), bel_then hbT hb2⟩
    · have hw : Rules.withinB t.dport 0 65535 = false := by simp [Rules.withinB, d1]
      have d1' : decide (t.dport ≤ 65535) = false := by simp; omega
      rw [hw] at k1 k2
      simp only [Bool.false_eq_true, if_false] at k1 k2
      cases act
      all_goals
        clear hw
        go_wp2_with fail
        first
          | refine (k1 _).mono ?_
          | refine (k2 _).mono ?_
        rintro e w2 ⟨rfl, hb2, hc2⟩
        obtain ⟨b0, b1, b2, b3, b4⟩ := (Bt1.below hb2).five
        clear k1 k2
        go_wp2
        all_goals
          go_ret
          exact ⟨ret_bool (by first | rfl | (simp; done) | (simp_all; done) | (exfalso; omega) | (exfalso; simp_all; omega)), bel_then hbT hb2⟩
  · have hw : Rules.withinB t.dport 0 65535 = false := by simp [Rules.withinB, d0]
    rw [hw] at k1 k2
    simp only [Bool.false_eq_true, if_false] at k1 k2
    cases act
    all_goals
      clear hw
      go_wp2_with fail
      first
        | refine (k1 _).mono ?_
        | refine (k2 _).mono ?_
      rintro e w2 ⟨rfl, hb2, hc2⟩
      obtain ⟨b0, b1, b2, b3, b4⟩ := (Bt1.below hb2).five
      clear k1 k2
      go_wp2
      all_goals
        go_ret
        exact ⟨ret_bool (by first | rfl | (simp; done) | (simp_all; done) | (exfalso; omega) | (exfalso; simp_all; omega)), bel_then hbT hb2⟩
end Go.Proofs.Ytdocojhjknhjnaa
