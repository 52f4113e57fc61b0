/- The walk of UdpSpoilt. -/
import Derived.Test.YtodcbejdlnikgaaUdpLaws2
namespace Go.Proofs.Ytodcbejdlnikgaa
open Go.RowKit
set_option linter.unusedVariables false
attribute [local go_sem] u64_low16 u32_low16 u16_not u16_signed u64_of_u16 i64_join
theorem own_get' {w : World} {base : Nat} {e : TypeId} {n c g : Nat} {l : List Int} (h : w.ownsRow base e 1 (.slice (some ⟨g, 0, none⟩) n c) n (bs l)) {k : Nat} {x : Int} (hk : l[k]? = some x) :
    w.cell? ⟨g, k, none⟩ = some (.int .u8 x) := by
  have hl : l.length = n := by have := h.1; rw [bs_len] at this; omega
  have hkl := (List.getElem?_eq_some_iff.1 hk).1
  rw [h.cellAt k (by omega)]
  simp [bs, hk]
set_option maxHeartbeats 8000000 in
theorem udp_spoilt (s d : Int) (sp dp : Int) (ns : Bool) (A : Option Addr) (n c : Nat) (body : List Int) (at_ x : Int) (w : World)
    (hs0 : 0 ≤ s) (hs1 : s ≤ 4294967295) (hd0 : 0 ≤ d) (hd1 : d ≤ 4294967295)
    (hR : Rd w 1 A n (bs body)) (hB : isB body) (hnc : n ≤ c) (hc : c ≤ 9223372036854775807)
    (hat0 : -9223372036854775808 ≤ at_) (hat1 : at_ ≤ 9223372036854775807) (hx0 : 0 ≤ x) (hx1 : x ≤ 255) :
    Calls Try.prog 9 #[.int .u32 s, .int .u32 d, .agg #[.int .i64 sp, .int .i64 dp, .bool ns, .slice A n c], .int .i64 at_, .int .u8 x] w fun e w' => e = .returned (.bool true) ∧ Below w.heap.size w w' := by
  obtain ⟨W, hW⟩ : ∃ W, W = (w.alloc (.cells #[.int .i64 sp, .int .i64 dp, .bool ns, .slice A n c] 37)) := ⟨_, rfl⟩
  have hbW : Below w.heap.size w W := by rw [hW]; exact (by repeat (first | exact Below.refl _ _ | exact Nat.le_refl _ | refine below_drewN ?_ _ | refine Below.setCell ?_ ?_ _ | refine Below.alloc ?_ ?_ _ | (simp; done)))
  have Bu : Box W w.heap.size [.int .i64 sp, .int .i64 dp, .bool ns, .slice A n c] := by rw [hW]; exact (Box.new w [.int .i64 sp, .int .i64 dp, .bool ns, .slice A n c] 37)
  have hl := hR.blen
  have hl' := Lib.hid hl
  by_cases hn : 3000 < n
  · have hn1 : (3000 : Int) < (n : Int) := by omega
    go_enter Try.func9, Try.ntmps9
    go_wp2_with fail
    rw [← hW]
    refine (udp_awake _).mono ?_
    rintro e w1 ⟨rfl, hb1⟩
    obtain ⟨b0, b1, b2, b3⟩ := (Bu.below hb1).four
    clear hR hW Bu hl
    go_wp2
    go_ret
    exact ⟨rfl, bel_then hbW hb1⟩
  · have hn1 : ¬ (3000 : Int) < (n : Int) := by omega
    by_cases hx : x = 0
    · have hxb : (x == 0) = true := by rw [beq_iff_eq]; exact hx
      clear hx
      go_enter Try.func9, Try.ntmps9
      go_wp2_with fail
      rw [← hW]
      refine (udp_awake _).mono ?_
      rintro e w1 ⟨rfl, hb1⟩
      obtain ⟨b0, b1, b2, b3⟩ := (Bu.below hb1).four
      clear hR hW Bu hl
      go_wp2
      go_ret
      exact ⟨rfl, bel_then hbW hb1⟩
    · have hxb : (x == 0) = false := by rw [beq_eq_false_iff_ne]; exact hx
      have HX := Lib.hid hx
      clear hx
      go_enter Try.func9, Try.ntmps9
      go_wp2_with fail
      rw [← hW]
      refine (udp_awake _).mono ?_
      rintro e w1 ⟨rfl, hb1⟩
      obtain ⟨b0, b1, b2, b3⟩ := (Bu.below hb1).four
      obtain ⟨f0, f1, f2, f3⟩ := (Bu.below hb1).fr4
      have hbX := bel_then hbW hb1
      have hR1 := hR.below (hbX.setCell (p := ⟨w.heap.size, 2, none⟩) (Nat.le_refl _) (.bool false))
      have hlt : w.heap.size < w1.heap.size := (Bu.below hb1).1
      clear hR hW Bu hl
      cases hf : Udp.fineB sp dp body
      · go_wp2_with fail
        refine (udp_put_no A n c body s d sp dp false _ hR1 (by omega) hf).mono ?_
        rintro e w2 ⟨A2, c2, rfl, hown2, hb2⟩
        clear hf
        go_wp2
        go_ret
        exact ⟨rfl, bel_then (hbX.setCell (p := ⟨w.heap.size, 2, none⟩) (Nat.le_refl _) (.bool false)) hb2⟩
      · have hfi := Udp.fine_of hf
        obtain ⟨k0, k1, k2⟩ := Udp.check_bd (ns := false) hs0 hd0 hfi hB
        have hsp := @Udp.spoilt s d sp dp body hs0 hd0 hfi hB
        have hpB := Udp.laid_isB hfi k0 k1 hB
        have hlen : (Udp.laid sp dp (Udp.check s d sp dp false body) body).length = 8 + n := by rw [Udp.laid_len, hl'.out]
        obtain ⟨L, hL⟩ : ∃ L, L = Udp.laid sp dp (Udp.check s d sp dp false body) body := ⟨_, rfl⟩
        rw [← hL] at hpB hlen hsp
        have HSP := Lib.hid hsp
        have HL := Lib.hid hL
        have HLEN := Lib.hid hlen
        clear hsp hL hlen k0 k1 k2
        go_wp2_with fail
        refine (udp_put_yes A n c body s d sp dp false _ hR1 hB hs0 hs1 hd0 hd1 hf).mono ?_
        rintro e w2 ⟨A2, c2, rfl, hown2, hb2⟩
        rw [← HL.out, HLEN.out] at hown2
        rw [← HL.out, HLEN.out]
        clear b0 b1 b2 b3 f0 f1 f2 f3 hf
        have hbY := bel_then (hbX.setCell (p := ⟨w.heap.size, 2, none⟩) (Nat.le_refl _) (.bool false)) hb2
        obtain ⟨g, rfl, hg0, hg1⟩ := own_head hown2 (by omega)
        by_cases hat : at_ < 0
        · clear hown2
          go_wp2
          go_ret
          exact ⟨rfl, hbY⟩
        obtain ⟨k, rfl⟩ := Int.eq_ofNat_of_zero_le (show 0 ≤ at_ by omega)
        clear hat
        by_cases hk : ¬ k < 8 + n
        · have hk' : 8 + (n : Int) ≤ (k : Int) := by omega
          clear hk hown2
          go_wp2
          go_ret
          exact ⟨rfl, hbY⟩
        have hk : k < 8 + n := by omega
        have hk' : (k : Int) < 8 + (n : Int) := by omega
        by_cases hk4 : k = 4
        · subst hk4
          clear hown2
          go_wp2
          go_ret
          exact ⟨rfl, hbY⟩
        by_cases hk5 : k = 5
        · subst hk5
          clear hown2
          go_wp2
          go_ret
          exact ⟨rfl, hbY⟩
        have hk4' : ((k : Int) == 4) = false := by rw [beq_eq_false_iff_ne]; omega
        have hk5' : ((k : Int) == 5) = false := by rw [beq_eq_false_iff_ne]; omega
        obtain ⟨v, hv, hvl, hvm⟩ := own_cell hown2 hk
        obtain ⟨v0, v1⟩ := hpB v hvm
        have hfv := hown2.frozenAt k
        obtain ⟨y0, y1, y2⟩ := Csum.xor_facts v x v0 v1 hx0 hx1 HX.out
        obtain ⟨L', hL'⟩ : ∃ L', L' = L.set k (bits .xor .u8 v x) := ⟨_, rfl⟩
        have hsp := HSP.out k v _ hk4 hk5 (by exact hvl.out) y0 y1 y2 L' (by rw [hL'])
        have hown3 := own_set1 hown2 k (bits .xor .u8 v x)
        have hB3 : isB (L.set k (bits .xor .u8 v x)) := Csum.isB_set hpB _ ⟨y0, y1⟩
        rw [← hL'] at hown3 hB3
        have hR3 := Rd.of_own hown3
        have hg2 : w1.heap.size ≤ g := by simpa using hg0
        have hgw : w.heap.size ≤ g := by omega
        have hbZ := hbY.setCell (p := ⟨g, k, none⟩) hgw (.int .u8 (bits .xor .u8 v x))
        have HO3 := Lib.hid hown3
        have hcap : 8 + n ≤ c2 := by
          rcases hown2.2 with ⟨h, _⟩ | ⟨g', cap, cur, h, _, _, hcc, _⟩
          · cases h
          · injection h with _ _ h; omega
        clear hown2 hvm hvl HSP hk4 hk5 y2 hL' hown3 hpB
        by_cases herr : (Udp.parse s d L').err = 0
        · rcases hsp with h | ⟨h1, h2, h3⟩
          · exact absurd herr h
          have HG := Lib.hid (And.intro herr (And.intro h1 (And.intro h2 h3)))
          clear herr h1 h2 h3
          go_wp2_with fail
          refine (udp_parse _ _ _ L' s d _ (by exact hR3) hB3 (by omega) (by omega) hs0 hs1 hd0 hd1).mono ?_
          rintro e w3 ⟨A3, c3, rfl, hown4, hb3⟩
          rw [HG.out.1, HG.out.2.1]
          have c6 := (hb3.cell (p := ⟨g, 6, none⟩) (by simp; omega)).trans (own_get' HO3.out HG.out.2.2.1)
          have c7 := (hb3.cell (p := ⟨g, 7, none⟩) (by simp; omega)).trans (own_get' HO3.out HG.out.2.2.2)
          have hg3 : g < w3.heap.size := Nat.lt_of_lt_of_le (by simpa using hg1) hb3.size
          have h6 : (6 : Int) < 8 + (n : Int) := by omega
          have h7 : (7 : Int) < 8 + (n : Int) := by omega
          clear hR3 hB3 hv hfv
          go_wp2
          go_ret
          exact ⟨rfl, by repeat (first | exact bel_then hbZ hb3 | refine Below.setCell ?_ ?_ _ | refine Below.alloc ?_ ?_ _ | (simp; done) | (have := hb1.size; have := hb2.size; have := hb3.size; simp at *; omega))⟩
        · have herr' : ((Udp.parse s d L').err != 0) = true := by rw [bne_iff_ne]; exact herr
          clear herr hsp
          go_wp2_with fail
          refine (udp_parse _ _ _ L' s d _ (by exact hR3) hB3 (by omega) (by omega) hs0 hs1 hd0 hd1).mono ?_
          rintro e w3 ⟨A3, c3, rfl, hown4, hb3⟩
          clear hR3 hB3 hv hfv
          go_wp2
          go_ret
          exact ⟨rfl, by repeat (first | exact bel_then hbZ hb3 | refine Below.setCell ?_ ?_ _ | refine Below.alloc ?_ ?_ _ | (simp; done) | (have := hb1.size; have := hb2.size; have := hb3.size; simp at *; omega))⟩
end Go.Proofs.Ytodcbejdlnikgaa
