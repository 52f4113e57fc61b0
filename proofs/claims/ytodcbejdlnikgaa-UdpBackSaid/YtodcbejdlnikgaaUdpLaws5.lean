/- The walk of UdpBack. -/
import Derived.Test.YtodcbejdlnikgaaUdpLaws2
namespace Go.Proofs.Ytodcbejdlnikgaa
open Go.RowKit
set_option linter.unusedVariables false
attribute [local go_sem] u64_low16 u32_low16 u16_not u16_signed u64_of_u16 i64_join
theorem isB.append {a b : List Int} (ha : isB a) (hb : isB b) : isB (a ++ b) := by
  intro x hx
  rcases List.mem_append.1 hx with h | h
  · exact ha x h
  · exact hb x h
set_option maxHeartbeats 8000000 in
theorem udp_back (s d : Int) (sp dp : Int) (ns : Bool) (A : Option Addr) (n c : Nat) (body : List Int) (A' : Option Addr) (n' c' : Nat) (l' : List Int) (w : World)
    (hs0 : 0 ≤ s) (hs1 : s ≤ 4294967295) (hd0 : 0 ≤ d) (hd1 : d ≤ 4294967295)
    (hR : Rd w 1 A n (bs body)) (hB : isB body) (hnc : n ≤ c) (hc : c ≤ 9223372036854775807) (hR' : Rd w 1 A' n' (bs l')) (hB' : isB l') (hnc' : n' ≤ c') (hc' : c' ≤ 9223372036854775807) :
    Calls Try.prog 12 #[.int .u32 s, .int .u32 d, .agg #[.int .i64 sp, .int .i64 dp, .bool ns, .slice A n c], .slice A' n' c'] w fun e w' => e = .returned (.bool true) ∧ Below w.heap.size w w' := by
  obtain ⟨m, hmin, hm1, hm2, _⟩ := min_named n' 3000
  have hmin' : (if (3000 : Int) < (n' : Int) then (3000 : Int) else (n' : Int)) = (m : Int) := hmin
  clear hmin
  have hr := hR'.btake (m := m) (by omega)
  have hb := hB'.take m
  have hrl := hr.blen
  obtain ⟨W, hW⟩ : ∃ W, W = (w.alloc (.cells #[.int .i64 sp, .int .i64 dp, .bool ns, .slice A n c] 37)) := ⟨_, rfl⟩
  have hbW : Below w.heap.size w W := by rw [hW]; exact (by repeat (first | exact Below.refl _ _ | exact Nat.le_refl _ | refine below_drewN ?_ _ | refine Below.setCell ?_ ?_ _ | refine Below.alloc ?_ ?_ _ | (simp; done)))
  have Bu : Box W w.heap.size [.int .i64 sp, .int .i64 dp, .bool ns, .slice A n c] := by rw [hW]; exact (Box.new w [.int .i64 sp, .int .i64 dp, .bool ns, .slice A n c] 37)
  have hl := hR.blen
  by_cases hn : 3000 < n
  · have hn1 : (3000 : Int) < (n : Int) := by omega
    go_enter Try.func12, Try.ntmps12
    go_wp2_with fail
    rw [← hW]
    refine (udp_awake _).mono ?_
    rintro e w1 ⟨rfl, hb1⟩
    obtain ⟨b0, b1, b2, b3⟩ := (Bu.below hb1).four
    clear hR hR' hW Bu hl hr hrl
    go_wp2
    go_ret
    exact ⟨rfl, bel_then hbW hb1⟩
  · have hn1 : ¬ (3000 : Int) < (n : Int) := by omega
    have hgB := Udp.parse_isB (s := s) (d := d) hb
    have hgl : (Udp.parse s d (l'.take m)).body.length ≤ 3000 := by have h1 := Udp.parse_len (s := s) (d := d) (l := l'.take m); have h2 := List.length_take_le m l'; omega
    have hlp := Udp.laid_parse (s := s) (d := d) (l := l'.take m) hs0 hd0 hb
    have hpl := @Udp.parse_laid s d sp dp ns body (l'.take m) hs0 hd0
    have HLP := Lib.hid hlp
    have HPL := Lib.hid hpl
    have HL := Lib.hid hl
    have HRL := Lib.hid hrl
    clear hlp hpl hl hrl
    go_enter Try.func12, Try.ntmps12
    go_wp2_with fail
    rw [← hW]
    refine (udp_awake _).mono ?_
    rintro e w1 ⟨rfl, hb1⟩
    have Bu1 := Bu.below hb1
    obtain ⟨b0, b1, b2, b3⟩ := Bu1.four
    have hbX := bel_then hbW hb1
    have r1 := hR.below hbX
    have q1 := hr.below hbX
    clear hR hR' hW Bu hr
    go_wp2_with fail
    refine (udp_parse _ _ _ _ s d _ q1 hb (by omega) (by omega) hs0 hs1 hd0 hd1).mono ?_
    rintro e w2 ⟨A2, c2, rfl, hr2, hb2⟩
    have Bu2 := Bu1.below hb2
    have r2 := r1.below hb2
    have q2 := q1.below hb2
    have hbY := bel_then hbX hb2
    clear b0 b1 b2 b3 Bu1 r1 q1
    by_cases he : (Udp.parse s d (l'.take m)).err = 0
    · have hbZ : Below w.heap.size w (w2.alloc (.cells #[.int .i64 (Udp.parse s d (l'.take m)).sp, .int .i64 (Udp.parse s d (l'.take m)).dp, .bool (Udp.parse s d (l'.take m)).ns, .slice A2 (Udp.parse s d (l'.take m)).body.length c2] 37)) := hbY.alloc hbY.size _
      have hbA : Below w2.heap.size w2 (w2.alloc (.cells #[.int .i64 (Udp.parse s d (l'.take m)).sp, .int .i64 (Udp.parse s d (l'.take m)).dp, .bool (Udp.parse s d (l'.take m)).ns, .slice A2 (Udp.parse s d (l'.take m)).body.length c2] 37)) := (Below.refl _ _).alloc (Nat.le_refl _) _
      rw [he]
      obtain ⟨g1, g2, g3, g4⟩ := HLP.out he
      have hfg : Udp.fineB (Udp.parse s d (l'.take m)).sp (Udp.parse s d (l'.take m)).dp (Udp.parse s d (l'.take m)).body = true := Udp.fineB_of g1
      have G4 := Lib.hid g4
      have HE := Lib.hid he
      have hgm : 8 + (Udp.parse s d (l'.take m)).body.length ≤ m := by have := HRL.out; omega
      obtain ⟨L, hL⟩ : ∃ L, L = Udp.laid (Udp.parse s d (l'.take m)).sp (Udp.parse s d (l'.take m)).dp (Udp.check s d (Udp.parse s d (l'.take m)).sp (Udp.parse s d (l'.take m)).dp (Udp.parse s d (l'.take m)).ns (Udp.parse s d (l'.take m)).body) (Udp.parse s d (l'.take m)).body := ⟨_, rfl⟩
      obtain ⟨gl, hgl'⟩ : ∃ gl, gl = (Udp.parse s d (l'.take m)).body.length := ⟨_, rfl⟩
      rw [← hgl'] at hgm
      have hLl : L.length = 8 + gl := by rw [hL, Udp.laid_len, hgl']
      have HLL := Lib.hid hLl
      have HLe := Lib.hid hL
      have HGL := Lib.hid hgl'
      clear g1 g3 g4 he hL hLl hgl'
      go_wp2_with fail
      refine (udp_put_yes _ _ _ _ s d _ _ _ _ (by exact hr2.below hbA) hgB hs0 hs1 hd0 hd1 hfg).mono ?_
      rintro e w3 ⟨A3, c3, rfl, hown3, hb3⟩
      rw [← HLe.out, HLL.out] at hown3
      rw [← HLe.out, HLL.out]
      have Bu3 := (Bu2.below hbA).below hb3
      have r := (r2.below hbA).below hb3
      have q3 := (q2.below hbA).below hb3
      have o3 := Rd.of_own hown3
      have hbV := bel_then hbZ hb3
      have q3t : Rd w3 1 A' (8 + gl) (bs L) := by
        have h := q3.btake (m := 8 + gl) (by omega)
        rw [HLe.out, G4.out]
        rw [HGL.out] at h ⊢
        exact h
      have hLB : isB L := by
        rw [HLe.out, G4.out]
        exact hb.take _
      have hle : ¬ ((m : Int) < 8 + (gl : Int)) := by omega
      have hle2 : 8 + (gl : Int) ≤ (m : Int) := by omega
      have hLL : (L == L) = true := by simp
      have hbV0 := hbV
      have hmc : 8 + (gl : Int) ≤ (c' : Int) := by omega
      clear Bu2 r2 q2 hr2 hown3 hfg
      obtain ⟨b0, b1, b2, b3⟩ := Bu3.four
      go_wp2_with (first | (go_at_call 29; refine (ref_same _ _ _ _ _ _ _ _ _ (by exact o3) (by exact q3t) hLB hLB (by omega)).mono ?_; rintro e wn ⟨rfl, nq, rfl⟩))
      cases hf : Udp.fineB sp dp body
      · go_wp2_with fail
        refine (udp_put_no A n c body s d sp dp ns _ (by exact r) (by omega) hf).mono ?_
        rintro e v1 ⟨A4, c4, rfl, hown4, hbv1⟩
        clear hf
        go_wp2
        go_ret
        exact ⟨rfl, bel_then (below_drewN hbV _) hbv1⟩
      · have hfi := Udp.fine_of hf
        obtain ⟨k0, k1, k2⟩ := Udp.check_bd (ns := ns) hs0 hd0 hfi hB
        have hpB := Udp.laid_isB hfi k0 k1 hB
        have hP := HPL.out hfi hB
        have hlen : (Udp.laid sp dp (Udp.check s d sp dp ns body) body).length = 8 + n := by rw [Udp.laid_len, HL.out]
        have HP := Lib.hid hP
        have HLEN := Lib.hid hlen
        clear hP hlen k0 k1 k2
        go_wp2_with fail
        refine (udp_put_yes A n c body s d sp dp ns _ (by exact r) hB hs0 hs1 hd0 hd1 hf).mono ?_
        rintro e v1 ⟨A4, c4, rfl, hown4, hbv1⟩
        rw [HLEN.out] at hown4
        rw [HLEN.out]
        clear b0 b1 b2 b3 hf hfi
        have Bv1 := Box.below (w := w3.drewN _) Bu3 hbv1
        have rv1 := Rd.below (w := w3.drewN _) (by exact r) hbv1
        have rb1 := Rd.below (w := w3.drewN _) (by exact q3) hbv1
        have qv := Rd.of_own hown4
        have hbU := bel_then (below_drewN hbV _) hbv1
        clear hown4
        go_wp2_with (first | (at_builtin; refine wpList_app0 _ rfl (.tmp 77) (.tmp 78) 22 rfl v1 (by exact Below.refl _ _) 5 (.int .u8 0) 1 1 Try.underlying22 info_u8 rfl (by decide) rfl _ _ _ (bs (Udp.laid sp dp (Udp.check s d sp dp ns body) body)) rfl (by exact qv) (one_bs _) (by unfold maxLen; omega) (by omega) ?_; intro A5 c5 v2 hown5 hbv2 hg5 hat5) | (at_builtin; refine wpList_app _ rfl (.tmp 79) (.tmp 80) 22 rfl v1 hbv2 5 (.int .u8 0) 1 1 Try.underlying22 info_u8 rfl (by decide) _ _ _ rfl hown5 A' _ _ (bs (l'.take m)) rfl (by exact rb1.below hbv2) (one_bs _) (by unfold maxLen; omega) (by omega) ?_; intro A6 c6 v3 hown6 hbv3 hg6 hat6))
        have hcap6 : 8 + n + m ≤ c6 := by
          rcases hown6.2 with ⟨h, h0⟩ | ⟨g', cap, cur, h, _, _, hcc, _⟩
          · omega
          · injection h with _ _ h; omega
        have q6 := Rd.of_own hown6
        rw [← bs_append] at q6
        refine (udp_parse _ _ _ _ s d _ (by exact q6) (isB.append hpB hb) (by omega) (by omega) hs0 hs1 hd0 hd1).mono ?_
        rintro e v4 ⟨A7, c7, rfl, hr7, hbv4⟩
        rw [HP.out] at hr7
        rw [HP.out]
        have hbF := bel_then hbv3 hbv4
        have Bv4 := Bv1.below hbF
        have rv4 := rv1.below hbF
        obtain ⟨b0, b1, b2, b3⟩ := Bv4.four
        have hlt := Bv4.1
        have hsame := Udp.same_self sp dp ns body
        clear Bv1 rv1 rb1 qv hown5 hown6 q6
        go_wp2_with fail
        refine (udp_same _ _ _ body _ _ _ _ _ _ body _ _ _ _ (by exact rv4.alloc _) hB (by exact hr7.alloc _) hB).mono ?_
        rintro e v5 ⟨rfl, hbv5⟩
        go_wp2
        go_ret
        exact ⟨rfl, bel_then (bel_then (bel_then hbU hbF) ((Below.refl _ _).alloc (Nat.le_refl _) _)) hbv5⟩
    · have hbZ : Below w.heap.size w (w2.alloc (.cells #[.int .i64 (Udp.parse s d (l'.take m)).sp, .int .i64 (Udp.parse s d (l'.take m)).dp, .bool (Udp.parse s d (l'.take m)).ns, .slice A2 (Udp.parse s d (l'.take m)).body.length c2] 37)) := hbY.alloc hbY.size _
      have hbA : Below w2.heap.size w2 (w2.alloc (.cells #[.int .i64 (Udp.parse s d (l'.take m)).sp, .int .i64 (Udp.parse s d (l'.take m)).dp, .bool (Udp.parse s d (l'.take m)).ns, .slice A2 (Udp.parse s d (l'.take m)).body.length c2] 37)) := (Below.refl _ _).alloc (Nat.le_refl _) _
      have he' : ((Udp.parse s d (l'.take m)).err == 0) = false := by rw [beq_eq_false_iff_ne]; exact he
      have Bu3 := Bu2.below hbA
      have r := r2.below hbA
      have q3 := q2.below hbA
      have hbV := hbZ
      clear he Bu2 r2 q2 hr2
      obtain ⟨b0, b1, b2, b3⟩ := Bu3.four
      cases hf : Udp.fineB sp dp body
      · go_wp2_with fail
        refine (udp_put_no A n c body s d sp dp ns _ (by exact r) (by omega) hf).mono ?_
        rintro e v1 ⟨A4, c4, rfl, hown4, hbv1⟩
        clear hf
        go_wp2
        go_ret
        exact ⟨rfl, bel_then hbV hbv1⟩
      · have hfi := Udp.fine_of hf
        obtain ⟨k0, k1, k2⟩ := Udp.check_bd (ns := ns) hs0 hd0 hfi hB
        have hpB := Udp.laid_isB hfi k0 k1 hB
        have hP := HPL.out hfi hB
        have hlen : (Udp.laid sp dp (Udp.check s d sp dp ns body) body).length = 8 + n := by rw [Udp.laid_len, HL.out]
        have HP := Lib.hid hP
        have HLEN := Lib.hid hlen
        clear hP hlen k0 k1 k2
        go_wp2_with fail
        refine (udp_put_yes A n c body s d sp dp ns _ (by exact r) hB hs0 hs1 hd0 hd1 hf).mono ?_
        rintro e v1 ⟨A4, c4, rfl, hown4, hbv1⟩
        rw [HLEN.out] at hown4
        rw [HLEN.out]
        clear b0 b1 b2 b3 hf hfi
        have Bv1 := Box.below (w := _) Bu3 hbv1
        have rv1 := Rd.below (w := _) (by exact r) hbv1
        have rb1 := Rd.below (w := _) (by exact q3) hbv1
        have qv := Rd.of_own hown4
        have hbU := bel_then hbV hbv1
        clear hown4
        go_wp2_with (first | (at_builtin; refine wpList_app0 _ rfl (.tmp 77) (.tmp 78) 22 rfl v1 (by exact Below.refl _ _) 5 (.int .u8 0) 1 1 Try.underlying22 info_u8 rfl (by decide) rfl _ _ _ (bs (Udp.laid sp dp (Udp.check s d sp dp ns body) body)) rfl (by exact qv) (one_bs _) (by unfold maxLen; omega) (by omega) ?_; intro A5 c5 v2 hown5 hbv2 hg5 hat5) | (at_builtin; refine wpList_app _ rfl (.tmp 79) (.tmp 80) 22 rfl v1 hbv2 5 (.int .u8 0) 1 1 Try.underlying22 info_u8 rfl (by decide) _ _ _ rfl hown5 A' _ _ (bs (l'.take m)) rfl (by exact rb1.below hbv2) (one_bs _) (by unfold maxLen; omega) (by omega) ?_; intro A6 c6 v3 hown6 hbv3 hg6 hat6))
        have hcap6 : 8 + n + m ≤ c6 := by
          rcases hown6.2 with ⟨h, h0⟩ | ⟨g', cap, cur, h, _, _, hcc, _⟩
          · omega
          · injection h with _ _ h; omega
        have q6 := Rd.of_own hown6
        rw [← bs_append] at q6
        refine (udp_parse _ _ _ _ s d _ (by exact q6) (isB.append hpB hb) (by omega) (by omega) hs0 hs1 hd0 hd1).mono ?_
        rintro e v4 ⟨A7, c7, rfl, hr7, hbv4⟩
        rw [HP.out] at hr7
        rw [HP.out]
        have hbF := bel_then hbv3 hbv4
        have Bv4 := Bv1.below hbF
        have rv4 := rv1.below hbF
        obtain ⟨b0, b1, b2, b3⟩ := Bv4.four
        have hlt := Bv4.1
        have hsame := Udp.same_self sp dp ns body
        clear Bv1 rv1 rb1 qv hown5 hown6 q6
        go_wp2_with fail
        refine (udp_same _ _ _ body _ _ _ _ _ _ body _ _ _ _ (by exact rv4.alloc _) hB (by exact hr7.alloc _) hB).mono ?_
        rintro e v5 ⟨rfl, hbv5⟩
        go_wp2
        go_ret
        exact ⟨rfl, bel_then (bel_then (bel_then hbU hbF) ((Below.refl _ _).alloc (Nat.le_refl _) _)) hbv5⟩
end Go.Proofs.Ytodcbejdlnikgaa
