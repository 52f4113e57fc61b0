/- The walks of udp.Same and of the reference of udp. -/
import Derived.Test.YtodcbejdlnikgaaUdpParse
namespace Go.Proofs.Ytodcbejdlnikgaa
open Go.RowKit
set_option linter.unusedVariables false
attribute [local go_sem] u64_low16 u32_low16 u16_not u16_signed u64_of_u16 i64_join
theorem two_box (w : World) (o : Obj) (cs : Array Value) (t : TypeId) (i : Nat) : ((w.alloc (.cells cs t)).alloc o).cell? ⟨w.heap.size, i, none⟩ = cs[i]? := by
  rw [World.cell?_alloc_lt _ _ _ (by simp)]; exact box_cell w cs t i
set_option maxHeartbeats 400000 in
theorem udp_same (A : Option Addr) (n c : Nat) (body : List Int) (sp dp : Int) (ns : Bool) (A' : Option Addr) (n' c' : Nat) (body' : List Int) (sp' dp' : Int) (ns' : Bool) (w : World)
    (hR : Rd w 1 A n (bs body)) (hB : isB body) (hR' : Rd w 1 A' n' (bs body')) (hB' : isB body') :
    Calls Try.prog 31 #[.agg #[.int .i64 sp, .int .i64 dp, .bool ns, .slice A n c], .agg #[.int .i64 sp', .int .i64 dp', .bool ns', .slice A' n' c']] w fun e w' => e = .returned (.bool (Udp.sameB sp dp ns body sp' dp' ns' body')) ∧ Below w.heap.size w w' := by
  have hb : Below w.heap.size w ((w.alloc (.cells #[.int .i64 sp, .int .i64 dp, .bool ns, .slice A n c] 37)).alloc (.cells #[.int .i64 sp', .int .i64 dp', .bool ns', .slice A' n' c'] 37)) := (by repeat (first | exact Below.refl _ _ | exact Nat.le_refl _ | refine below_drewN ?_ _ | refine Below.setCell ?_ ?_ _ | refine Below.alloc ?_ ?_ _ | (simp; done)))
  have hr := hR.below hb
  have hr' := hR'.below hb
  have hs : Udp.sameB sp dp ns body sp' dp' ns' body' = (sp == sp' && (dp == dp' && (ns == ns' && body == body'))) := rfl
  cases h1 : (sp == sp')
  · rw [h1, Bool.false_and] at hs
    have HS := Lib.hid hs
    clear hs hR hR' hr hr'
    go_enter Try.func31, Try.ntmps31
    go_wp2
    go_ret
    exact ⟨ret_bool HS.out.symm, hb⟩
  · cases h2 : (dp == dp')
    · rw [h1, h2, Bool.true_and, Bool.false_and] at hs
      have HS := Lib.hid hs
      clear hs hR hR' hr hr'
      go_enter Try.func31, Try.ntmps31
      go_wp2
      go_ret
      exact ⟨ret_bool HS.out.symm, hb⟩
    · cases h3 : (ns == ns')
      · rw [h1, h2, h3, Bool.true_and, Bool.true_and, Bool.false_and] at hs
        have HS := Lib.hid hs
        clear hs hR hR' hr hr'
        go_enter Try.func31, Try.ntmps31
        go_wp2
        go_ret
        exact ⟨ret_bool HS.out.symm, hb⟩
      · rw [h1, h2, h3, Bool.true_and, Bool.true_and, Bool.true_and] at hs
        have HS := Lib.hid hs
        clear hs hR hR'
        go_enter Try.func31, Try.ntmps31
        go_wp2_with (go_at_call 41; refine (bytes_equal _ _ _ _ _ _ _ _ _ hr hr' hB hB').mono ?_; rintro e w' ⟨rfl, rfl⟩)
        go_ret
        exact ⟨ret_bool HS.out.symm, hb⟩
set_option maxHeartbeats 400000 in
theorem rudp_same (A : Option Addr) (n c : Nat) (body : List Int) (sp dp : Int) (ns : Bool) (A' : Option Addr) (n' c' : Nat) (body' : List Int) (sp' dp' : Int) (ns' : Bool) (w : World)
    (hR : Rd w 1 A n (bs body)) (hB : isB body) (hR' : Rd w 1 A' n' (bs body')) (hB' : isB body') (hn : n ≤ 9223372036854775807) :
    Calls Try.prog 27 #[.agg #[.int .i64 sp, .int .i64 dp, .bool ns, .slice A n c], .agg #[.int .i64 sp', .int .i64 dp', .bool ns', .slice A' n' c']] w fun e w' => e = .returned (.bool (Udp.sameB sp dp ns body sp' dp' ns' body')) ∧ Below w.heap.size w w' := by
  have hb : Below w.heap.size w ((w.alloc (.cells #[.int .i64 sp, .int .i64 dp, .bool ns, .slice A n c] 37)).alloc (.cells #[.int .i64 sp', .int .i64 dp', .bool ns', .slice A' n' c'] 37)) := (by repeat (first | exact Below.refl _ _ | exact Nat.le_refl _ | refine below_drewN ?_ _ | refine Below.setCell ?_ ?_ _ | refine Below.alloc ?_ ?_ _ | (simp; done)))
  have hr := hR.below hb
  have hr' := hR'.below hb
  have hs : Udp.sameB sp dp ns body sp' dp' ns' body' = (sp == sp' && (dp == dp' && (ns == ns' && body == body'))) := rfl
  cases h1 : (sp == sp')
  · rw [h1, Bool.false_and] at hs
    have HS := Lib.hid hs
    clear hs hR hR' hr hr'
    go_enter Try.func27, Try.ntmps27
    go_wp2
    go_ret
    exact ⟨ret_bool HS.out.symm, hb⟩
  · cases h2 : (dp == dp')
    · rw [h1, h2, Bool.true_and, Bool.false_and] at hs
      have HS := Lib.hid hs
      clear hs hR hR' hr hr'
      go_enter Try.func27, Try.ntmps27
      go_wp2
      go_ret
      exact ⟨ret_bool HS.out.symm, hb⟩
    · cases h3 : (ns == ns')
      · rw [h1, h2, h3, Bool.true_and, Bool.true_and, Bool.false_and] at hs
        have HS := Lib.hid hs
        clear hs hR hR' hr hr'
        go_enter Try.func27, Try.ntmps27
        go_wp2
        go_ret
        exact ⟨ret_bool HS.out.symm, hb⟩
      · rw [h1, h2, h3, Bool.true_and, Bool.true_and, Bool.true_and] at hs
        have HS := Lib.hid hs
        clear hs hR hR'
        go_enter Try.func27, Try.ntmps27
        go_wp2_with (go_at_call 29; refine (ref_same _ _ _ _ _ _ _ _ _ hr hr' hB hB' hn).mono ?_; rintro e w1 ⟨rfl, q, rfl⟩)
        go_ret
        exact ⟨ret_bool HS.out.symm, below_drewN hb _⟩
theorem rcsum_pseudoP (a b p q : Int) (w : World) (ha0 : 0 ≤ a) (ha1 : a ≤ 4294967295) (hb0 : 0 ≤ b) (hb1 : b ≤ 4294967295) :
    Calls Try.prog 23 #[.int .u32 a, .int .u32 b, .int .i64 p, .int .i64 q] w fun e w' => e = .returned (.int .u16 (Csum.pseudo a b p q)) ∧ Below w.heap.size w w' :=
  rcsum_pseudo a b p q w ha0 ha1 hb0 hb1
set_option maxHeartbeats 400000 in
theorem rudp_sum (A : Option Addr) (n c : Nat) (l : List Int) (s d : Int) (w : World) (h : Rd w 1 A n (bs l)) (hb : isB l) (hn : n ≤ 140737488355327)
    (hs0 : 0 ≤ s) (hs1 : s ≤ 4294967295) (hd0 : 0 ≤ d) (hd1 : d ≤ 4294967295) :
    Calls Try.prog 37 #[.int .u32 s, .int .u32 d, .slice A n c] w fun e w' => e = .returned (.int .i64 (Udp.sum s d l)) ∧ Below w.heap.size w w' := by
  have hl := h.blen
  obtain ⟨p0, p1⟩ := Csum.pseudo_bd (p := 17) (q := (n : Int)) hs0 hd0
  obtain ⟨s0, s1⟩ := Csum.sum_bd hb
  obtain ⟨u0, u1⟩ := Csum.fold_bd (n := Csum.pseudo s d 17 n + Csum.sum l) (by omega)
  have e : Csum.fold (Csum.pseudo s d 17 n + Csum.sum l) = Udp.sum s d l := by unfold Udp.sum; rw [hl]
  have E := Lib.hid e
  clear e hl
  go_enter Try.func37, Try.ntmps37
  go_wp2_with fail
  refine (rcsum_pseudoP s d 17 n w hs0 hs1 hd0 hd1).mono ?_
  rintro e w1 ⟨rfl, hb1⟩
  have h1 := h.below hb1
  go_wp2_with fail
  refine (rcsum_sum _ _ _ _ _ h1 hb hn).mono ?_
  rintro e w2 ⟨rfl, hb2⟩
  go_wp2_with (go_at_call 20; refine (rcsum_join _ _ _ (by omega) (by omega) (by omega) (by omega)).mono ?_; rintro e w' ⟨rfl, rfl⟩)
  go_ret
  exact ⟨ret_int E.out, bel_then hb1 hb2⟩
theorem rd_own (w : World) (e : TypeId) (l : List Int) (cs : Array Value) (n g : Nat) (hcs : cs = (bs l).toArray) (hl : l.length = n) (hn : n ≤ 4096) (hg : g = w.heap.size) (base : Nat) (hb : base ≤ w.heap.size) :
    (w.alloc (.cells cs e)).ownsRow base e 1 (.slice (some ⟨g, 0, none⟩) n n) n (bs l) := by
  have h := World.ownsRow_lit (base := base) (e := e) (size := 1) w cs n hb (by unfold maxLen; omega) (by rw [hcs]; simp [bs]; omega)
  rw [hcs] at h ⊢
  rw [hg]
  simpa using h
set_option maxHeartbeats 1000000 in
theorem rudp_laid (A : Option Addr) (n c : Nat) (body : List Int) (sp dp ck : Int) (ns : Bool) (w : World) (hR : Rd w 1 A n (bs body))
    (f1 : 0 ≤ sp) (f2 : sp ≤ 65535) (f3 : 0 ≤ dp) (f4 : dp ≤ 65535) (f5 : n ≤ 65527) (k0 : 0 ≤ ck) (k1 : ck ≤ 65535) :
    Calls Try.prog 40 #[.agg #[.int .i64 sp, .int .i64 dp, .bool ns, .slice A n c], .int .i64 ck] w (RetB w 5 (8 + n) (Udp.laid sp dp ck body)) := by
  have hl := hR.blen
  subst hl
  have hb : Below w.heap.size w (w.alloc (.cells #[.int .i64 sp, .int .i64 dp, .bool ns, .slice A body.length c] 37)) := (by repeat (first | exact Below.refl _ _ | exact Nat.le_refl _ | refine below_drewN ?_ _ | refine Below.setCell ?_ ?_ _ | refine Below.alloc ?_ ?_ _ | (simp; done)))
  have hr := hR.below hb
  clear hR
  go_enter Try.func40, Try.ntmps40
  go_wp2_with (at_builtin; refine wpList_app _ rfl (.tmp 38) (.tmp 40) 22 rfl w (by exact hb.alloc hb.size _) 5 (.int .u8 0) 1 1 Try.underlying22 info_u8 rfl (by decide) _ 8 (bs [sp / 256, sp % 256, dp / 256, dp % 256, (8 + (body.length : Int)) / 256, (8 + (body.length : Int)) % 256, ck / 256, ck % 256]) rfl (by exact rd_own _ _ [sp / 256, sp % 256, dp / 256, dp % 256, (8 + (body.length : Int)) / 256, (8 + (body.length : Int)) % 256, ck / 256, ck % 256] _ 8 (w.heap.size + 1) rfl rfl (by omega) (by simp) _ hb.size) A body.length c (bs body) rfl (by exact hr.alloc _) (one_bs _) (by unfold maxLen; omega) (by omega) ?_; intro A5 c5 w5 hown5 hb5 hg5 hat5)
  go_ret
  rw [← bs_append] at hown5
  exact ⟨A5, c5, rfl, hown5, hb5⟩
theorem PutR_of_RetB {w w' : World} {e : TypeId} {n : Nat} {l : List Int} (hn : l.length = n) {A : Option Addr} {c : Nat} {w1 : World} (hb : Below w.heap.size w w1)
    (hown : w'.ownsRow w1.heap.size e 1 (.slice A n c) n (bs l)) (hb' : Below w1.heap.size w1 w') : PutR w e 0 l (.returned (.tuple #[.slice A n c, .int .i64 0])) w' := by
  subst hn
  exact ⟨A, c, rfl, own_base hown hb.size, bel_then hb hb'⟩
set_option maxHeartbeats 1000000 in
theorem rudp_put_yes (A : Option Addr) (n c : Nat) (body : List Int) (s d sp dp : Int) (ns : Bool) (w : World) (hR : Rd w 1 A n (bs body)) (hB : isB body)
    (hs0 : 0 ≤ s) (hs1 : s ≤ 4294967295) (hd0 : 0 ≤ d) (hd1 : d ≤ 4294967295) (hf : Udp.fineB sp dp body = true) :
    Calls Try.prog 30 #[.int .u32 s, .int .u32 d, .agg #[.int .i64 sp, .int .i64 dp, .bool ns, .slice A n c]] w (PutR w 5 0 (Udp.laid sp dp (Udp.check s d sp dp ns body) body)) := by
  have hl := hR.blen
  have hfine := Udp.fine_of hf
  have hfine' := hfine
  obtain ⟨f1, f2, f3, f4, f5⟩ := hfine
  have hb : Below w.heap.size w (w.alloc (.cells #[.int .i64 sp, .int .i64 dp, .bool ns, .slice A n c] 37)) := (by repeat (first | exact Below.refl _ _ | exact Nat.le_refl _ | refine below_drewN ?_ _ | refine Below.setCell ?_ ?_ _ | refine Below.alloc ?_ ?_ _ | (simp; done)))
  have hr := hR.below hb
  have hn5 : n ≤ 65527 := by omega
  have hlen : ∀ ck, (Udp.laid sp dp ck body).length = 8 + n := fun ck => by rw [Udp.laid_len, hl]
  have HL := Lib.hid hlen
  cases ns
  · have hB0 : isB (Udp.laid sp dp 0 body) := Udp.laid_isB hfine' (by omega) (by omega) hB
    obtain ⟨u0, u1⟩ := Udp.sum_bd (s := s) (d := d) hs0 hd0 hB0
    by_cases hz : 65535 - Udp.sum s d (Udp.laid sp dp 0 body) = 0
    · have hck : Udp.check s d sp dp false body = 65535 := by unfold Udp.check; rw [if_pos hz]; rfl
      have HCK := Lib.hid hck
      have hz1 : (65535 - Udp.sum s d (Udp.laid sp dp 0 body) == 0) = true := by rw [beq_iff_eq]; exact hz
      clear hl hf hfine' hR hck hlen hz
      go_enter Try.func30, Try.ntmps30
      go_wp2_with fail
      refine (rudp_laid A n c body sp dp 0 false _ hr f1 f2 f3 f4 hn5 (by omega) (by omega)).mono ?_
      rintro e w1 ⟨A1, c1, rfl, hown1, hb1⟩
      have b0 : w1.cell? ⟨w.heap.size, 0, none⟩ = some (.int .i64 sp) := (hb1.cell (by simp)).trans (by rw [box_cell]; rfl)
      have b1 : w1.cell? ⟨w.heap.size, 1, none⟩ = some (.int .i64 dp) := (hb1.cell (by simp)).trans (by rw [box_cell]; rfl)
      have b2 : w1.cell? ⟨w.heap.size, 2, none⟩ = some (.bool false) := (hb1.cell (by simp)).trans (by rw [box_cell]; rfl)
      have b3 : w1.cell? ⟨w.heap.size, 3, none⟩ = some (.slice A n c) := (hb1.cell (by simp)).trans (by rw [box_cell]; rfl)
      have r1 := Rd.of_own hown1
      have hr1 := hr.below hb1
      go_wp2_with fail
      refine (rudp_sum _ _ _ _ s d _ r1 hB0 (by omega) hs0 hs1 hd0 hd1).mono ?_
      rintro e w2 ⟨rfl, hb2⟩
      have hw := World.block_lt_of_cell? _ _ b0
      have d0 := (hb2.cell (p := ⟨w.heap.size, 0, none⟩) hw).trans b0
      have d1 := (hb2.cell (p := ⟨w.heap.size, 1, none⟩) hw).trans b1
      have d2 := (hb2.cell (p := ⟨w.heap.size, 2, none⟩) hw).trans b2
      have d3 := (hb2.cell (p := ⟨w.heap.size, 3, none⟩) hw).trans b3
      have hr2 := hr1.below hb2
      go_wp2_with fail
      refine (rudp_laid A n c body sp dp 65535 false _ hr2 f1 f2 f3 f4 hn5 (by omega) (by omega)).mono ?_
      rintro e w3 ⟨A3, c3, rfl, hown3, hb3⟩
      go_wp2
      go_ret2
      rw [HCK.out]
      exact PutR_of_RetB (HL.out _) (bel_then (bel_then hb hb1) hb2) hown3 hb3
    · have hck : Udp.check s d sp dp false body = 65535 - Udp.sum s d (Udp.laid sp dp 0 body) := by unfold Udp.check; rw [if_neg hz]; rfl
      have HCK := Lib.hid hck
      have hz1 : (65535 - Udp.sum s d (Udp.laid sp dp 0 body) == 0) = false := by rw [beq_eq_false_iff_ne]; exact hz
      clear hl hf hfine' hR hck hlen hz
      go_enter Try.func30, Try.ntmps30
      go_wp2_with fail
      refine (rudp_laid A n c body sp dp 0 false _ hr f1 f2 f3 f4 hn5 (by omega) (by omega)).mono ?_
      rintro e w1 ⟨A1, c1, rfl, hown1, hb1⟩
      have b0 : w1.cell? ⟨w.heap.size, 0, none⟩ = some (.int .i64 sp) := (hb1.cell (by simp)).trans (by rw [box_cell]; rfl)
      have b1 : w1.cell? ⟨w.heap.size, 1, none⟩ = some (.int .i64 dp) := (hb1.cell (by simp)).trans (by rw [box_cell]; rfl)
      have b2 : w1.cell? ⟨w.heap.size, 2, none⟩ = some (.bool false) := (hb1.cell (by simp)).trans (by rw [box_cell]; rfl)
      have b3 : w1.cell? ⟨w.heap.size, 3, none⟩ = some (.slice A n c) := (hb1.cell (by simp)).trans (by rw [box_cell]; rfl)
      have r1 := Rd.of_own hown1
      have hr1 := hr.below hb1
      go_wp2_with fail
      refine (rudp_sum _ _ _ _ s d _ r1 hB0 (by omega) hs0 hs1 hd0 hd1).mono ?_
      rintro e w2 ⟨rfl, hb2⟩
      have hw := World.block_lt_of_cell? _ _ b0
      have d0 := (hb2.cell (p := ⟨w.heap.size, 0, none⟩) hw).trans b0
      have d1 := (hb2.cell (p := ⟨w.heap.size, 1, none⟩) hw).trans b1
      have d2 := (hb2.cell (p := ⟨w.heap.size, 2, none⟩) hw).trans b2
      have d3 := (hb2.cell (p := ⟨w.heap.size, 3, none⟩) hw).trans b3
      have hr2 := hr1.below hb2
      go_wp2_with fail
      refine (rudp_laid A n c body sp dp (65535 - Udp.sum s d (Udp.laid sp dp 0 body)) false _ hr2 f1 f2 f3 f4 hn5 (by omega) (by omega)).mono ?_
      rintro e w3 ⟨A3, c3, rfl, hown3, hb3⟩
      go_wp2
      go_ret2
      rw [HCK.out]
      exact PutR_of_RetB (HL.out _) (bel_then (bel_then hb hb1) hb2) hown3 hb3
  · clear hl hf hfine' hR hlen
    go_enter Try.func30, Try.ntmps30
    go_wp2_with fail
    refine (rudp_laid A n c body sp dp 0 true _ hr f1 f2 f3 f4 hn5 (by omega) (by omega)).mono ?_
    rintro e w1 ⟨A1, c1, rfl, hown1, hb1⟩
    go_wp2
    go_ret2
    exact PutR_of_RetB (HL.out _) hb hown1 hb1
set_option maxHeartbeats 1000000 in
theorem rudp_put_no (A : Option Addr) (n c : Nat) (body : List Int) (s d sp dp : Int) (ns : Bool) (w : World) (hR : Rd w 1 A n (bs body))
    (hf : Udp.fineB sp dp body = false) :
    Calls Try.prog 30 #[.int .u32 s, .int .u32 d, .agg #[.int .i64 sp, .int .i64 dp, .bool ns, .slice A n c]] w (PutR w 5 1 []) := by
  have hl := hR.blen
  have hfin : ∀ w', Below w.heap.size w w' → PutR w 5 1 [] (.returned (.tuple #[.slice none 0 0, .int .i64 1])) w' := fun w' hb => ⟨none, 0, rfl, World.ownsRow_nil _ _ _ _, hb⟩
  have HF := Lib.hid hfin
  have hb : Below w.heap.size w (w.alloc (.cells #[.int .i64 sp, .int .i64 dp, .bool ns, .slice A n c] 37)) := (by repeat (first | exact Below.refl _ _ | exact Nat.le_refl _ | refine below_drewN ?_ _ | refine Below.setCell ?_ ?_ _ | refine Below.alloc ?_ ?_ _ | (simp; done)))
  have hcase : sp < 0 ∨ (0 ≤ sp ∧ 65535 < sp) ∨ (0 ≤ sp ∧ sp ≤ 65535 ∧ dp < 0) ∨ (0 ≤ sp ∧ sp ≤ 65535 ∧ 0 ≤ dp ∧ 65535 < dp) ∨ (0 ≤ sp ∧ sp ≤ 65535 ∧ 0 ≤ dp ∧ dp ≤ 65535 ∧ 65527 < (n : Int)) := by
    have : ¬ Udp.fine sp dp body := fun h => by rw [Udp.fineB_of h] at hf; cases hf
    unfold Udp.fine at this
    omega
  clear hfin hl hR hf
  rcases hcase with h1 | ⟨h1, h2⟩ | ⟨h1, h2, h3⟩ | ⟨h1, h2, h3, h4⟩ | ⟨h1, h2, h3, h4, h5⟩
  all_goals
    go_enter Try.func30, Try.ntmps30
    go_wp2
    go_ret2
    exact HF.out _ hb
end Go.Proofs.Ytodcbejdlnikgaa
