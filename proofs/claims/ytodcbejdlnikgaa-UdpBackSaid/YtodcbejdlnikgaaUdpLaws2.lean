/- The walks of the laws over package udp: UdpPuts, UdpLaid. -/
import Derived.Test.YtodcbejdlnikgaaUdpLaws
namespace Go.Proofs.Ytodcbejdlnikgaa
open Go.RowKit
set_option linter.unusedVariables false
attribute [local go_sem] u64_low16 u32_low16 u16_not u16_signed u64_of_u16 i64_join
theorem Box.fr4 {w : World} {g : Nat} {a b c d : Value} (h : Box w g [a, b, c, d]) : w.frozen? ⟨g, 0, none⟩ = false ∧ w.frozen? ⟨g, 1, none⟩ = false ∧ w.frozen? ⟨g, 2, none⟩ = false ∧ w.frozen? ⟨g, 3, none⟩ = false :=
  ⟨(h.2 0 _ rfl).2, (h.2 1 _ rfl).2, (h.2 2 _ rfl).2, (h.2 3 _ rfl).2⟩
set_option maxHeartbeats 4000000 in
theorem udp_puts (s d : Int) (sp dp : Int) (ns : Bool) (A : Option Addr) (n c : Nat) (body : List Int) (sp' dp' : Int) (ns' : Bool) (A' : Option Addr) (n' c' : Nat) (body' : List Int) (w : World)
    (hs0 : 0 ≤ s) (hs1 : s ≤ 4294967295) (hd0 : 0 ≤ d) (hd1 : d ≤ 4294967295)
    (hR : Rd w 1 A n (bs body)) (hB : isB body) (hnc : n ≤ c) (hc : c ≤ 9223372036854775807) (hR' : Rd w 1 A' n' (bs body')) (hB' : isB body') (hnc' : n' ≤ c') (hc' : c' ≤ 9223372036854775807) :
    Calls Try.prog 11 #[.int .u32 s, .int .u32 d, .agg #[.int .i64 sp, .int .i64 dp, .bool ns, .slice A n c], .agg #[.int .i64 sp', .int .i64 dp', .bool ns', .slice A' n' c']] w fun e w' => e = .returned (.bool true) ∧ Below w.heap.size w w' := by
  obtain ⟨W, hW⟩ : ∃ W, W = (w.alloc (.cells #[.int .i64 sp, .int .i64 dp, .bool ns, .slice A n c] 37)).alloc (.cells #[.int .i64 sp', .int .i64 dp', .bool ns', .slice A' n' c'] 37) := ⟨_, rfl⟩
  have hbW : Below w.heap.size w W := by rw [hW]; exact (by repeat (first | exact Below.refl _ _ | exact Nat.le_refl _ | refine below_drewN ?_ _ | refine Below.setCell ?_ ?_ _ | refine Below.alloc ?_ ?_ _ | (simp; done)))
  have Bu : Box W w.heap.size [.int .i64 sp, .int .i64 dp, .bool ns, .slice A n c] := by rw [hW]; exact (Box.new w [.int .i64 sp, .int .i64 dp, .bool ns, .slice A n c] 37).below ((Below.refl _ _).alloc (Nat.le_refl _) _)
  have Bv : Box W (w.heap.size + 1) [.int .i64 sp', .int .i64 dp', .bool ns', .slice A' n' c'] := by
    rw [hW]
    have := Box.new (w.alloc (.cells #[.int .i64 sp, .int .i64 dp, .bool ns, .slice A n c] 37)) [.int .i64 sp', .int .i64 dp', .bool ns', .slice A' n' c'] 37
    simpa using this
  have hRW := hR.below hbW
  have hRW' := hR'.below hbW
  have hl := hR.blen
  have hpB := Udp.put_isB (s := s) (d := d) (sp := sp) (dp := dp) (ns := ns) hs0 hd0 hB
  have hpl := Udp.putl_len (s := s) (d := d) (sp := sp) (dp := dp) (ns := ns) (body := body)
  by_cases hn : 3000 < n
  · have hn1 : (3000 : Int) < (n : Int) := by omega
    go_enter Try.func11, Try.ntmps11
    go_wp2_with fail
    rw [← hW]
    refine (udp_awake _).mono ?_
    rintro e w1 ⟨rfl, hb1⟩
    obtain ⟨b0, b1, b2, b3⟩ := (Bu.below hb1).four
    clear hR hR' hRW hRW' hW Bu Bv hl hpB hpl
    go_wp2
    go_ret
    exact ⟨rfl, bel_then hbW hb1⟩
  · by_cases hn' : 3000 < n'
    · have hn1 : ¬ (3000 : Int) < (n : Int) := by omega
      have hn2 : (3000 : Int) < (n' : Int) := by omega
      go_enter Try.func11, Try.ntmps11
      go_wp2_with fail
      rw [← hW]
      refine (udp_awake _).mono ?_
      rintro e w1 ⟨rfl, hb1⟩
      obtain ⟨b0, b1, b2, b3⟩ := (Bu.below hb1).four
      obtain ⟨d0, d1, d2, d3⟩ := (Bv.below hb1).four
      clear hR hR' hRW hRW' hW Bu Bv hl hpB hpl
      go_wp2
      go_ret
      exact ⟨rfl, bel_then hbW hb1⟩
    · have hn1 : (n : Int) ≤ 3000 := by omega
      have hn2 : (n' : Int) ≤ 3000 := by omega
      go_enter Try.func11, Try.ntmps11
      go_wp2_with fail
      rw [← hW]
      clear hW
      refine (udp_awake _).mono ?_
      rintro e w1 ⟨rfl, hb1⟩
      have Bu1 := Bu.below hb1
      have Bv1 := Bv.below hb1
      have r1 := hRW.below hb1
      have r1' := hRW'.below hb1
      obtain ⟨b0, b1, b2, b3⟩ := Bu1.four
      obtain ⟨d0, d1, d2, d3⟩ := Bv1.four
      clear hR hR' hRW hRW' Bu Bv
      go_wp2_with fail
      refine (udp_put A n c body s d sp dp ns _ r1 hB (by omega) hs0 hs1 hd0 hd1).mono ?_
      rintro e w2 ⟨A2, c2, rfl, hown2, hb2⟩
      clear b0 b1 b2 b3 d0 d1 d2 d3
      have Bu2 := Bu1.below hb2
      have Bv2 := Bv1.below hb2
      have r2 := r1.below hb2
      have r2' := r1'.below hb2
      obtain ⟨b0, b1, b2, b3⟩ := Bu2.four
      have q2 := Rd.of_own hown2
      clear Bu1 Bv1 r1 r1' hown2
      go_wp2_with fail
      refine (rudp_put A n c body s d sp dp ns _ r2 hB hs0 hs1 hd0 hd1).mono ?_
      rintro e w3 ⟨A3, c3, rfl, hown3, hb3⟩
      clear b0 b1 b2 b3
      have Bu3 := Bu2.below hb3
      have Bv3 := Bv2.below hb3
      have r3 := r2.below hb3
      have r3' := r2'.below hb3
      have q3 := q2.below hb3
      have q3' := Rd.of_own hown3
      obtain ⟨b0, b1, b2, b3⟩ := Bu3.four
      obtain ⟨d0, d1, d2, d3⟩ := Bv3.four
      have hu := Bu3.1
      have hv := Bv3.1
      have hbT := bel_then (bel_then (bel_then hbW hb1) hb2) hb3
      clear Bu2 Bv2 r2 r2' q2 hown3
      have KK := Lib.hid (And.intro b0 (And.intro b1 (And.intro b2 (And.intro b3 (And.intro d0 (And.intro d1 (And.intro d2 d3)))))))
      have he1 : (Udp.pute sp dp body == Udp.pute sp dp body) = true := by simp
      have he2 : (Udp.putl s d sp dp ns body == Udp.putl s d sp dp ns body) = true := by simp
      go_wp2_with fail
      go_region_held3 (fun w' => w'.cell? ⟨w.heap.size, 0, none⟩ = some (.int .i64 sp) ∧ w'.cell? ⟨w.heap.size, 1, none⟩ = some (.int .i64 dp) ∧ w'.cell? ⟨w.heap.size, 2, none⟩ = some (.bool ns) ∧ w'.cell? ⟨w.heap.size, 3, none⟩ = some (.slice A n c) ∧ w'.cell? ⟨w.heap.size + 1, 0, none⟩ = some (.int .i64 sp') ∧ w'.cell? ⟨w.heap.size + 1, 1, none⟩ = some (.int .i64 dp') ∧ w'.cell? ⟨w.heap.size + 1, 2, none⟩ = some (.bool ns') ∧ w'.cell? ⟨w.heap.size + 1, 3, none⟩ = some (.slice A' n' c'))
        (first
          | exact KK.out
          | exact ⟨(hbn.cell (p := ⟨w.heap.size, 0, none⟩) hu).trans KK.out.1, (hbn.cell (p := ⟨w.heap.size, 1, none⟩) hu).trans KK.out.2.1, (hbn.cell (p := ⟨w.heap.size, 2, none⟩) hu).trans KK.out.2.2.1, (hbn.cell (p := ⟨w.heap.size, 3, none⟩) hu).trans KK.out.2.2.2.1, (hbn.cell (p := ⟨w.heap.size + 1, 0, none⟩) hv).trans KK.out.2.2.2.2.1, (hbn.cell (p := ⟨w.heap.size + 1, 1, none⟩) hv).trans KK.out.2.2.2.2.2.1, (hbn.cell (p := ⟨w.heap.size + 1, 2, none⟩) hv).trans KK.out.2.2.2.2.2.2.1, (hbn.cell (p := ⟨w.heap.size + 1, 3, none⟩) hv).trans KK.out.2.2.2.2.2.2.2⟩)
        ((first
          | (go_at_call 29; refine (ref_same _ _ _ _ _ _ _ _ _ (by exact q3) (by exact q3') hpB hpB (by omega)).mono ?_; rintro e wn ⟨rfl, q, rfl⟩)
          | (go_at_call 31; refine (udp_same _ _ _ body _ _ _ _ _ _ body' _ _ _ _ (by exact r3) hB (by exact r3') hB').mono ?_; rintro e wn ⟨rfl, hbn0⟩; have hbn := bel_then (below_drewN (Below.refl w3.heap.size w3) _) hbn0)
          | (go_at_call 27; refine (rudp_same _ _ _ body _ _ _ _ _ _ body' _ _ _ _ (by exact r3.below hbn) hB (by exact r3'.below hbn) hB' (by omega)).mono ?_; rintro e wn2 ⟨rfl, hbn1⟩; have hbo := hbn; have hbn := bel_then hbo hbn1)))
      go_wp2
      go_ret
      exact ⟨rfl, bel_then hbT hbn⟩
end Go.Proofs.Ytodcbejdlnikgaa
