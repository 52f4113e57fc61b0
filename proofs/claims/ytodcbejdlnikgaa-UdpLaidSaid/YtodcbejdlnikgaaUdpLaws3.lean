/- The walks of UdpLaid and UdpSpoilt. -/
import Derived.Test.YtodcbejdlnikgaaUdpLaws2
namespace Go.Proofs.Ytodcbejdlnikgaa
open Go.RowKit
set_option linter.unusedVariables false
attribute [local go_sem] u64_low16 u32_low16 u16_not u16_signed u64_of_u16 i64_join
theorem Udp.laid_get (sp dp ck : Int) (body : List Int) : (Udp.laid sp dp ck body)[4]? = some ((8 + (body.length : Int)) / 256) ∧ (Udp.laid sp dp ck body)[5]? = some ((8 + (body.length : Int)) % 256) ∧
    (Udp.laid sp dp ck body)[6]? = some (ck / 256) ∧ (Udp.laid sp dp ck body)[7]? = some (ck % 256) ∧ (Udp.laid sp dp ck body).drop 8 = body := ⟨rfl, rfl, rfl, rfl, rfl⟩
theorem own_get {w : World} {base : Nat} {e : TypeId} {n c g : Nat} {l : List Int} (h : w.ownsRow base e 1 (.slice (some ⟨g, 0, none⟩) n c) n (bs l)) {k : Nat} {x : Int} (hk : l[k]? = some x) :
    w.cell? ⟨g, k, none⟩ = some (.int .u8 x) := by
  have hl : l.length = n := by have := h.1; rw [bs_len] at this; omega
  have hkl := (List.getElem?_eq_some_iff.1 hk).1
  rw [h.cellAt k (by omega)]
  simp [bs, hk]
set_option maxHeartbeats 16000000 in
theorem udp_laid (s d : Int) (sp dp : Int) (ns : Bool) (A : Option Addr) (n c : Nat) (body : List Int) (w : World)
    (hs0 : 0 ≤ s) (hs1 : s ≤ 4294967295) (hd0 : 0 ≤ d) (hd1 : d ≤ 4294967295)
    (hR : Rd w 1 A n (bs body)) (hB : isB body) (hnc : n ≤ c) (hc : c ≤ 9223372036854775807) :
    Calls Try.prog 10 #[.int .u32 s, .int .u32 d, .agg #[.int .i64 sp, .int .i64 dp, .bool ns, .slice A n c]] w fun e w' => e = .returned (.bool true) ∧ Below w.heap.size w w' := by
  obtain ⟨W, hW⟩ : ∃ W, W = (w.alloc (.cells #[.int .i64 sp, .int .i64 dp, .bool ns, .slice A n c] 37)) := ⟨_, rfl⟩
  have hbW : Below w.heap.size w W := by rw [hW]; exact (by repeat (first | exact Below.refl _ _ | exact Nat.le_refl _ | refine below_drewN ?_ _ | refine Below.setCell ?_ ?_ _ | refine Below.alloc ?_ ?_ _ | (simp; done)))
  have Bu : Box W w.heap.size [.int .i64 sp, .int .i64 dp, .bool ns, .slice A n c] := by rw [hW]; exact (Box.new w [.int .i64 sp, .int .i64 dp, .bool ns, .slice A n c] 37)
  have hRW := hR.below hbW
  have hl := hR.blen
  by_cases hn : 3000 < n
  · have hn1 : (3000 : Int) < (n : Int) := by omega
    go_enter Try.func10, Try.ntmps10
    go_wp2_with fail
    rw [← hW]
    refine (udp_awake _).mono ?_
    rintro e w1 ⟨rfl, hb1⟩
    obtain ⟨b0, b1, b2, b3⟩ := (Bu.below hb1).four
    clear hR hRW hW Bu hl
    go_wp2
    go_ret
    exact ⟨rfl, bel_then hbW hb1⟩
  · have hn1 : (n : Int) ≤ 3000 := by omega
    cases hf : Udp.fineB sp dp body
    · go_enter Try.func10, Try.ntmps10
      go_wp2_with fail
      rw [← hW]
      refine (udp_awake _).mono ?_
      rintro e w1 ⟨rfl, hb1⟩
      have r1 := hRW.below hb1
      obtain ⟨b0, b1, b2, b3⟩ := (Bu.below hb1).four
      clear hR hRW hW Bu hl
      go_wp2_with fail
      refine (udp_put_no A n c body s d sp dp ns _ r1 (by omega) hf).mono ?_
      rintro e w2 ⟨A2, c2, rfl, hown2, hb2⟩
      clear hf
      go_wp2
      go_ret
      exact ⟨rfl, bel_then (bel_then hbW hb1) hb2⟩
    · have hfi := Udp.fine_of hf
      obtain ⟨k0, k1, k2⟩ := Udp.check_bd (ns := ns) hs0 hd0 hfi hB
      obtain ⟨ck, hck⟩ : ∃ ck, ck = Udp.check s d sp dp ns body := ⟨_, rfl⟩
      rw [← hck] at k0 k1 k2
      have hpB := Udp.laid_isB hfi k0 k1 hB
      obtain ⟨g4, g5, g6, g7, g8⟩ := Udp.laid_get sp dp ck body
      have hlen : (Udp.laid sp dp ck body).length = 8 + n := by rw [Udp.laid_len, hl]
      have hfit : ns = false → Csum.fold (Csum.pseudo s d 17 (8 + (n : Int)) + Csum.sum (Udp.laid sp dp ck body)) = 65535 := by
        intro h
        have h1 := Udp.check_fits (s := s) (d := d) hs0 hd0 hfi hB
        rw [← h, ← hck] at h1
        unfold Udp.sum at h1
        rw [hlen] at h1
        rw [show (8 + (n : Int)) = ((8 + n : Nat) : Int) by omega]; exact h1
      have hns : (ns == (ck == 0)) = true := by
        cases ns
        · have := k2 rfl
          have : (ck == 0) = false := by rw [beq_eq_false_iff_ne]; omega
          rw [this]; rfl
        · have : ck = 0 := by rw [hck]; rfl
          rw [this]; rfl
      have hns2 : (ns != (ck == 0)) = false := by unfold bne; rw [hns]; rfl
      obtain ⟨x6, hx6⟩ : ∃ x, x = ck / 256 := ⟨_, rfl⟩
      obtain ⟨x7, hx7⟩ : ∃ x, x = ck % 256 := ⟨_, rfl⟩
      obtain ⟨x4, hx4⟩ : ∃ x, x = (8 + (n : Int)) / 256 := ⟨_, rfl⟩
      obtain ⟨x5, hx5⟩ : ∃ x, x = (8 + (n : Int)) % 256 := ⟨_, rfl⟩
      rw [hl, ← hx4] at g4
      rw [hl, ← hx5] at g5
      rw [← hx6] at g6
      rw [← hx7] at g7
      have t67 : x6 * 256 + x7 = ck := by omega
      have t45 : x4 * 256 + x5 = 8 + (n : Int) := by omega
      have p60 : 0 ≤ x6 ∧ x6 ≤ 255 := by omega
      have p70 : 0 ≤ x7 ∧ x7 ≤ 255 := by omega
      have p40 : 0 ≤ x4 ∧ x4 ≤ 255 := by omega
      have p50 : 0 ≤ x5 ∧ x5 ≤ 255 := by omega
      obtain ⟨p60, p61⟩ := p60
      obtain ⟨p70, p71⟩ := p70
      obtain ⟨p40, p41⟩ := p40
      obtain ⟨p50, p51⟩ := p50
      have hps := Csum.pseudo_bd (a := s) (b := d) (p := 17) (q := 8 + (n : Int)) hs0 hd0
      obtain ⟨hps0, hps1⟩ := hps
      obtain ⟨hsm0, hsm1⟩ := Csum.sum_bd hpB
      have HFIT := Lib.hid hfit
      have HCK := Lib.hid hck
      have HG := Lib.hid (And.intro g4 (And.intro g5 (And.intro g6 (And.intro g7 g8))))
      have HLEN := Lib.hid hlen
      clear hx4 hx5 hx6 hx7 hck g4 g5 g6 g7 g8 hlen hfit
      go_enter Try.func10, Try.ntmps10
      go_wp2_with fail
      rw [← hW]
      refine (udp_awake _).mono ?_
      rintro e w1 ⟨rfl, hb1⟩
      have r1 := hRW.below hb1
      have Bu1 := Bu.below hb1
      obtain ⟨b0, b1, b2, b3⟩ := Bu1.four
      clear hR hRW hW Bu hl
      go_wp2_with fail
      refine (udp_put_yes A n c body s d sp dp ns _ r1 hB hs0 hs1 hd0 hd1 hf).mono ?_
      rintro e w2 ⟨A2, c2, rfl, hown2, hb2⟩
      rw [← HCK.out, HLEN.out] at hown2
      rw [← HCK.out, HLEN.out]
      clear b0 b1 b2 b3
      obtain ⟨b0, b1, b2, b3⟩ := (Bu1.below hb2).four
      have r2 := r1.below hb2
      have q2 := Rd.of_own hown2
      obtain ⟨g, rfl, hg0, hg1⟩ := own_head hown2 (by omega)
      have c4 := own_get hown2 HG.out.1
      have c5 := own_get hown2 HG.out.2.1
      have c6 := own_get hown2 HG.out.2.2.1
      have c7 := own_get hown2 HG.out.2.2.2.1
      have q8 : Rd w2 1 (some ⟨g, 8, none⟩) n (bs body) := by
        have h8 := q2.bdrop 8 n (by omega)
        rw [HG.out.2.2.2.2, List.take_of_length_le (by have := r2.blen; omega)] at h8
        simpa using h8
      have hcap : 8 + n ≤ c2 := by
        rcases hown2.2 with ⟨h, _⟩ | ⟨g', cap, cur, h, _, _, hcc, _⟩
        · cases h
        · injection h with _ _ h; omega
      have hbT := bel_then (bel_then hbW hb1) hb2
      have he : (body == body) = true := by simp
      have h6 : (6 : Int) < 8 + (n : Int) := by omega
      have h7 : (7 : Int) < 8 + (n : Int) := by omega
      have h4 : (4 : Int) < 8 + (n : Int) := by omega
      have h5 : (5 : Int) < 8 + (n : Int) := by omega
      have h8 : (8 : Int) ≤ 8 + (n : Int) := by omega
      have hcc : 8 + (n : Int) ≤ (c2 : Int) := by omega
      have hnl : (8 + (n : Int) != 8 + (n : Int)) = false := by simp
      have hwa : IntKind.i64.wrap x4 = x4 := IntWalk.i64_in _ (by omega)
      have hwb : IntKind.i64.wrap x5 = x5 := IntWalk.i64_in _ (by omega)
      have hwc : IntKind.i64.wrap (x4 * 256) = x4 * 256 := IntWalk.i64_in _ (by omega)
      have hwd : IntKind.i64.wrap (x4 * 256 + x5) = 8 + (n : Int) := by rw [t45]; exact IntWalk.i64_in _ (by omega)
      have hwe : IntKind.i64.wrap (8 + (n : Int)) = 8 + (n : Int) := IntWalk.i64_in _ (by omega)
      by_cases hc8 : c2 = 8
      · have hn0 : n = 0 := by omega
        have q8' : Rd w2 1 (some ⟨g, 0, none⟩) 0 (bs body) := by
          have h8 := q2.bdrop 0 0 (by omega)
          have hb0 : body = [] := List.eq_nil_of_length_eq_zero (by have := r2.blen; omega)
          rw [hb0]
          simpa using h8
        subst hc8
        clear hn0
        have hS0 : ∀ a q, Calls Try.prog 29 #[.slice (some ⟨g, 0, none⟩) 0 0, .slice A n c] ((w2.drewN a).drewN q) (fun e w'' => e = .returned (.bool (body == body)) ∧ ∃ m, w'' = (w2.drewN a).drewN m) :=
          fun a q => Calls.quiet_of (ref_same _ _ _ _ _ _ _ _ ((w2.drewN a).drewN q) (by exact q8') (by exact r2) hB hB (by omega))
        have hS : ∀ a q, Calls Try.prog 29 #[.slice (some ⟨g, 0, none⟩) 0 0, .slice A n c] (w2.drewN (a + q)) (fun e w'' => e = .returned (.bool (body == body)) ∧ ∃ m, w'' = w2.drewN (a + m)) := fun a q => by have h := hS0 a q; simp only [World.drewN_drewN] at h; exact h
        have HS := Lib.hid hS
        clear hS hS0 hown2 q8 q8' r2 hf
        go_wp2_with fail
        go_quiet (fail)
        go_wp2_with fail
        go_quiet ((with_reducible exact HS.out _ _))
        cases ns
        · have hfin := HFIT.out rfl
          have hfin' : (Csum.fold (Csum.pseudo s d 17 (8 + (n : Int)) + Csum.sum (Udp.laid sp dp ck body)) == 65535) = true := by rw [beq_iff_eq]; exact hfin
          clear hfin
          go_wp2_with fail
          refine (rcsum_pseudoP s d 17 (8 + (n : Int)) _ hs0 hs1 hd0 hd1).mono ?_
          rintro e w3 ⟨rfl, hb3⟩
          go_wp2_with fail
          refine (rcsum_sum _ _ _ _ _ (Rd.below (w := w2.drewN _) (by exact q2) hb3) hpB (by omega)).mono ?_
          rintro e w4 ⟨rfl, hb4⟩
          go_wp2_with (go_at_call 20; refine (rcsum_join _ _ _ (by omega) (by omega) (by omega) (by omega)).mono ?_; rintro e w' ⟨rfl, rfl⟩)
          go_ret
          exact ⟨rfl, bel_then (bel_then (below_drewN hbT _) hb3) hb4⟩
        · go_wp2
          go_ret
          exact ⟨rfl, below_drewN hbT _⟩
      · have hS0 : ∀ a q, Calls Try.prog 29 #[.slice (some ⟨g, 8, none⟩) n (c2 - 8), .slice A n c] ((w2.drewN a).drewN q) (fun e w'' => e = .returned (.bool (body == body)) ∧ ∃ m, w'' = (w2.drewN a).drewN m) :=
          fun a q => Calls.quiet_of (ref_same _ _ _ _ _ _ _ _ ((w2.drewN a).drewN q) (by exact q8) (by exact r2) hB hB (by omega))
        have hS : ∀ a q, Calls Try.prog 29 #[.slice (some ⟨g, 8, none⟩) n (c2 - 8), .slice A n c] (w2.drewN (a + q)) (fun e w'' => e = .returned (.bool (body == body)) ∧ ∃ m, w'' = w2.drewN (a + m)) := fun a q => by have h := hS0 a q; simp only [World.drewN_drewN] at h; exact h
        have HS := Lib.hid hS
        have hc8' : ¬ (c2 : Int) = 8 := by omega
        clear hS hS0 hown2 q8 r2 hf
        go_wp2_with fail
        go_quiet (fail)
        go_wp2_with fail
        go_quiet ((with_reducible exact HS.out _ _))
        cases ns
        · have hfin := HFIT.out rfl
          have hfin' : (Csum.fold (Csum.pseudo s d 17 (8 + (n : Int)) + Csum.sum (Udp.laid sp dp ck body)) == 65535) = true := by rw [beq_iff_eq]; exact hfin
          clear hfin
          go_wp2_with fail
          refine (rcsum_pseudoP s d 17 (8 + (n : Int)) _ hs0 hs1 hd0 hd1).mono ?_
          rintro e w3 ⟨rfl, hb3⟩
          go_wp2_with fail
          refine (rcsum_sum _ _ _ _ _ (Rd.below (w := w2.drewN _) (by exact q2) hb3) hpB (by omega)).mono ?_
          rintro e w4 ⟨rfl, hb4⟩
          go_wp2_with (go_at_call 20; refine (rcsum_join _ _ _ (by omega) (by omega) (by omega) (by omega)).mono ?_; rintro e w' ⟨rfl, rfl⟩)
          go_ret
          exact ⟨rfl, bel_then (bel_then (below_drewN hbT _) hb3) hb4⟩
        · go_wp2
          go_ret
          exact ⟨rfl, below_drewN hbT _⟩
end Go.Proofs.Ytodcbejdlnikgaa
