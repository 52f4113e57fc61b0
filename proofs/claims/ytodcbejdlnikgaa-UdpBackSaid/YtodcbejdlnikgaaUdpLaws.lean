/- The walks of the laws over package udp. -/
import Derived.Test.YtodcbejdlnikgaaUdpRefQ
namespace Go.Proofs.Ytodcbejdlnikgaa
open Go.RowKit
set_option linter.unusedVariables false
attribute [local go_sem] u64_low16 u32_low16 u16_not u16_signed u64_of_u16 i64_join
theorem udp_put (A : Option Addr) (n c : Nat) (body : List Int) (s d sp dp : Int) (ns : Bool) (w : World) (hR : Rd w 1 A n (bs body)) (hB : isB body) (hn : n ≤ 9223372036854775799)
    (hs0 : 0 ≤ s) (hs1 : s ≤ 4294967295) (hd0 : 0 ≤ d) (hd1 : d ≤ 4294967295) :
    Calls Try.prog 28 #[.int .u32 s, .int .u32 d, .agg #[.int .i64 sp, .int .i64 dp, .bool ns, .slice A n c]] w (PutR w 5 (Udp.pute sp dp body) (Udp.putl s d sp dp ns body)) := by
  unfold Udp.pute Udp.putl
  cases hf : Udp.fineB sp dp body
  · exact udp_put_no A n c body s d sp dp ns w hR hn hf
  · exact udp_put_yes A n c body s d sp dp ns w hR hB hs0 hs1 hd0 hd1 hf
theorem rudp_put (A : Option Addr) (n c : Nat) (body : List Int) (s d sp dp : Int) (ns : Bool) (w : World) (hR : Rd w 1 A n (bs body)) (hB : isB body)
    (hs0 : 0 ≤ s) (hs1 : s ≤ 4294967295) (hd0 : 0 ≤ d) (hd1 : d ≤ 4294967295) :
    Calls Try.prog 30 #[.int .u32 s, .int .u32 d, .agg #[.int .i64 sp, .int .i64 dp, .bool ns, .slice A n c]] w (PutR w 5 (Udp.pute sp dp body) (Udp.putl s d sp dp ns body)) := by
  unfold Udp.pute Udp.putl
  cases hf : Udp.fineB sp dp body
  · exact rudp_put_no A n c body s d sp dp ns w hR hf
  · exact rudp_put_yes A n c body s d sp dp ns w hR hB hs0 hs1 hd0 hd1 hf
theorem udp_parse (A : Option Addr) (n c : Nat) (l : List Int) (s d : Int) (w : World) (hR : Rd w 1 A n (bs l)) (hB : isB l) (hnc : n ≤ c) (hn : n ≤ 140737488355327)
    (hs0 : 0 ≤ s) (hs1 : s ≤ 4294967295) (hd0 : 0 ≤ d) (hd1 : d ≤ 4294967295) :
    Calls Try.prog 25 #[.int .u32 s, .int .u32 d, .slice A n c] w (ParseR w (Udp.parse s d l)) := by
  by_cases h : n < 8
  · exact udp_parse_short A n c l s d w h hR.blen
  · obtain ⟨b, off, rfl, _⟩ := hR.2 (by omega)
    exact udp_parse_long b off n c l s d w hR hB (by omega) hnc (by omega) hs0 hs1 hd0 hd1
theorem rudp_parse (A : Option Addr) (n c : Nat) (l : List Int) (s d : Int) (w : World) (hR : Rd w 1 A n (bs l)) (hB : isB l) (hnc : n ≤ c) (hn : n ≤ 140737488355327)
    (hs0 : 0 ≤ s) (hs1 : s ≤ 4294967295) (hd0 : 0 ≤ d) (hd1 : d ≤ 4294967295) :
    Calls Try.prog 26 #[.int .u32 s, .int .u32 d, .slice A n c] w (ParseR w (Udp.parse s d l)) := by
  by_cases h : n < 8
  · exact rudp_parse_short A n c l s d w h hR.blen
  · obtain ⟨b, off, rfl, _⟩ := hR.2 (by omega)
    by_cases h1 : (Udp.size l < 8 ∨ (l.length : Int) < Udp.size l) ∨ Udp.ck l = 0
    · exact rudp_parse_nosum b off n c l s d w hR hB (by omega) hnc hn hs0 hs1 hd0 hd1 h1
    · exact rudp_parse_sum b off n c l s d w hR hB (by omega) hnc hn hs0 hs1 hd0 hd1 (fun e => h1 (.inr e)) (fun e => h1 (.inl e))
theorem Udp.put_isB {s d sp dp : Int} {ns : Bool} {body : List Int} (hs0 : 0 ≤ s) (hd0 : 0 ≤ d) (hB : isB body) : isB (Udp.putl s d sp dp ns body) := by
  unfold Udp.putl
  cases hf : Udp.fineB sp dp body
  · intro x hx; simp at hx
  · have hc := Udp.check_bd (ns := ns) hs0 hd0 (Udp.fine_of hf) hB
    exact Udp.laid_isB (Udp.fine_of hf) hc.1 hc.2.1 hB
theorem Udp.putl_len {s d sp dp : Int} {ns : Bool} {body : List Int} : (Udp.putl s d sp dp ns body).length ≤ 8 + body.length := by
  unfold Udp.putl
  split
  · rw [Udp.laid_len]; exact Nat.le_refl _
  · simp
set_option maxHeartbeats 1000000 in
theorem udp_awake (w : World) :
    Calls Try.prog 24 #[] w fun e w' => e = .returned (.bool true) ∧ Below w.heap.size w w' := by
  have e1 : Udp.pute 1 2 [] = 0 := by kernel_rfl
  have e2 : Udp.putl 1 2 1 2 true [] = [0, 1, 0, 2, 0, 8, 0, 0] := by kernel_rfl
  have e3 : Udp.parse 1 2 [0, 1, 0, 2, 0, 8, 0, 0] = ⟨0, 1, 2, true, []⟩ := by kernel_rfl
  have hb8 : isB [0, 1, 0, 2, 0, 8, 0, 0] := by intro x hx; simp at hx; omega
  have E1 := Lib.hid e1
  have E2 := Lib.hid e2
  have E3 := Lib.hid e3
  clear e1 e2 e3
  go_enter Try.func24, Try.ntmps24
  go_wp2_with fail
  refine (udp_put none 0 0 [] 1 2 1 2 true _ (Rd.nil_ _) (by intro x hx; simp at hx) (by omega) (by omega) (by omega) (by omega) (by omega)).mono ?_
  rintro e w1 ⟨A1, c1, rfl, hown1, hb1⟩
  rw [E2.out] at hown1
  rw [E1.out, E2.out]
  simp only [List.length_cons, List.length_nil, Nat.zero_add, Nat.reduceAdd] at hown1 ⊢
  obtain ⟨g, rfl, hg1, hg2⟩ := own_head hown1 (by omega)
  have k1 : w1.cell? ⟨g, 1, none⟩ = some (.int .u8 1) := by rw [hown1.cellAt 1 (by omega)]; rfl
  have k5 : w1.cell? ⟨g, 5, none⟩ = some (.int .u8 8) := by rw [hown1.cellAt 5 (by omega)]; rfl
  have hR1 := Rd.of_own hown1
  have hc1 : 8 ≤ c1 := by
    rcases hown1.2 with ⟨h, _⟩ | ⟨g', cap, cur, h, _, _, hc, _⟩
    · cases h
    · injection h with _ _ h; omega
  clear hown1
  go_wp2_with fail
  refine (udp_parse _ 8 c1 _ 1 2 _ hR1 hb8 hc1 (by omega) (by omega) (by omega) (by omega) (by omega)).mono ?_
  rintro e w2 ⟨A2, c2, rfl, hr2, hb2⟩
  rw [E3.out] at hr2 ⊢
  have k1' := (hb2.cell (p := ⟨g, 1, none⟩) hg2).trans k1
  have k5' := (hb2.cell (p := ⟨g, 5, none⟩) hg2).trans k5
  have hg3 : g < w2.heap.size := by have := hb2.size; omega
  have k1'' : (w2.alloc (.cells #[.int .i64 1, .int .i64 2, .bool true, .slice A2 0 c2] 37)).cell? ⟨g, 1, none⟩ = some (.int .u8 1) := (World.cell?_alloc_lt _ _ _ hg3).trans k1'
  have k5'' : (w2.alloc (.cells #[.int .i64 1, .int .i64 2, .bool true, .slice A2 0 c2] 37)).cell? ⟨g, 5, none⟩ = some (.int .u8 8) := (World.cell?_alloc_lt _ _ _ hg3).trans k5'
  go_wp2
  go_ret
  exact ⟨rfl, by repeat (first | exact bel_then hb1 hb2 | refine Below.setCell ?_ ?_ _ | refine Below.alloc ?_ ?_ _ | (simp; done) | (have := hb1.size; have := hb2.size; simp; omega))⟩
/-- A box of the call's own, known cell by cell. -/
def Box (w : World) (g : Nat) (cs : List Value) : Prop := g < w.heap.size ∧ ∀ i v, cs[i]? = some v → w.cell? ⟨g, i, none⟩ = some v ∧ w.frozen? ⟨g, i, none⟩ = false
theorem Box.below {w w' : World} {g : Nat} {cs : List Value} (h : Box w g cs) (hb : Below w.heap.size w w') : Box w' g cs :=
  ⟨Nat.lt_of_lt_of_le h.1 hb.size, fun i v hv => ⟨(hb.cell (p := ⟨g, i, none⟩) h.1).trans (h.2 i v hv).1, (hb.frozen (p := ⟨g, i, none⟩) h.1).trans (h.2 i v hv).2⟩⟩
theorem Box.new (w : World) (cs : List Value) (t : TypeId) : Box (w.alloc (.cells cs.toArray t)) w.heap.size cs :=
  ⟨by simp, fun i v hv => ⟨by rw [box_cell]; simpa using hv, frozen_of_row _ _ i _ _ (heap_alloc_new w _)⟩⟩
theorem Box.four {w : World} {g : Nat} {a b c d : Value} (h : Box w g [a, b, c, d]) : w.cell? ⟨g, 0, none⟩ = some a ∧ w.cell? ⟨g, 1, none⟩ = some b ∧ w.cell? ⟨g, 2, none⟩ = some c ∧ w.cell? ⟨g, 3, none⟩ = some d :=
  ⟨(h.2 0 _ rfl).1, (h.2 1 _ rfl).1, (h.2 2 _ rfl).1, (h.2 3 _ rfl).1⟩
theorem Udp.parse_isB {s d : Int} {l : List Int} (h : isB l) : isB (Udp.parse s d l).body := by
  unfold Udp.parse
  split
  · intro x hx; simp at hx
  · split
    · intro x hx; simp at hx
    · split
      · intro x hx; simp at hx
      · intro x hx; exact h x (List.mem_of_mem_take (List.mem_of_mem_drop hx))
theorem Udp.parse_len {s d : Int} {l : List Int} : (Udp.parse s d l).body.length ≤ l.length := by
  unfold Udp.parse
  split
  · simp
  · split
    · simp
    · split
      · simp
      · simp; omega
theorem Udp.same_self (sp dp : Int) (ns : Bool) (body : List Int) : Udp.sameB sp dp ns body sp dp ns body = true := by unfold Udp.sameB; simp
set_option maxHeartbeats 1000000 in
theorem udp_reads (A : Option Addr) (n c : Nat) (l : List Int) (s d : Int) (w : World) (hR : Rd w 1 A n (bs l)) (hB : isB l) (hn : n ≤ c) (hc : c ≤ 9223372036854775807)
    (hs0 : 0 ≤ s) (hs1 : s ≤ 4294967295) (hd0 : 0 ≤ d) (hd1 : d ≤ 4294967295) :
    Calls Try.prog 8 #[.int .u32 s, .int .u32 d, .slice A n c] w fun e w' => e = .returned (.bool true) ∧ Below w.heap.size w w' := by
  obtain ⟨m, hmin, hm1, hm2, _⟩ := min_named n 3000
  have hmin' : (if (3000 : Int) < (n : Int) then (3000 : Int) else (n : Int)) = (m : Int) := hmin
  clear hmin
  have hr := hR.btake (m := m) (by omega)
  have hb := hB.take m
  clear hR hB
  have hgB := Udp.parse_isB (s := s) (d := d) hb
  have hgl : (Udp.parse s d (l.take m)).body.length ≤ 3000 := by have h1 := Udp.parse_len (s := s) (d := d) (l := l.take m); have h2 := List.length_take_le m l; omega
  have hsame := Udp.same_self (Udp.parse s d (l.take m)).sp (Udp.parse s d (l.take m)).dp (Udp.parse s d (l.take m)).ns (Udp.parse s d (l.take m)).body
  go_enter Try.func8, Try.ntmps8
  go_wp2_with (go_at_call 24; refine (udp_awake _).mono ?_; rintro e w1 ⟨rfl, hb1⟩)
  have hr1 := hr.below hb1
  refine (udp_parse _ _ _ _ s d _ hr1 hb (by omega) (by omega) hs0 hs1 hd0 hd1).mono ?_
  rintro e w2 ⟨A2, c2, rfl, hr2, hb2⟩
  have hr1' := hr1.below hb2
  go_wp2_with fail
  obtain ⟨W, hW⟩ : ∃ W, W = w2.alloc (.cells #[.int .i64 (Udp.parse s d (l.take m)).sp, .int .i64 (Udp.parse s d (l.take m)).dp, .bool (Udp.parse s d (l.take m)).ns, .slice A2 (Udp.parse s d (l.take m)).body.length c2] 37) := ⟨_, rfl⟩
  have hbW : Below w2.heap.size w2 W := by rw [hW]; exact (Below.refl _ _).alloc (Nat.le_refl _) _
  have Bx : Box W w2.heap.size [.int .i64 (Udp.parse s d (l.take m)).sp, .int .i64 (Udp.parse s d (l.take m)).dp, .bool (Udp.parse s d (l.take m)).ns, .slice A2 (Udp.parse s d (l.take m)).body.length c2] := by rw [hW]; exact Box.new w2 _ _
  rw [← hW]
  clear hW
  have hrW := hr1'.below hbW
  have hxW := hr2.below hbW
  refine (rudp_parse _ _ _ _ s d _ hrW hb (by omega) (by omega) hs0 hs1 hd0 hd1).mono ?_
  rintro e w3 ⟨A3, c3, rfl, hr3, hb3⟩
  have hx3 := hxW.below hb3
  obtain ⟨x0, x1, x2, x3⟩ := (Bx.below hb3).four
  have hlt := (Bx.below hb3).1
  have he : ((Udp.parse s d (l.take m)).err == (Udp.parse s d (l.take m)).err) = true := by simp
  clear Bx hrW hxW hr hr1 hr1' hr2
  go_wp2_with fail
  refine (rudp_same _ _ _ _ _ _ _ _ _ _ _ _ _ _ _ (hx3.alloc _) hgB (hr3.alloc _) hgB (by omega)).mono ?_
  rintro e w4 ⟨rfl, hb4⟩
  go_wp2
  go_ret
  exact ⟨rfl, bel_then (bel_then (bel_then (bel_then (bel_then hb1 hb2) hbW) hb3) ((Below.refl _ _).alloc (Nat.le_refl _) _)) hb4⟩
end Go.Proofs.Ytodcbejdlnikgaa
