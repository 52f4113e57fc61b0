/- The walks of package udp. -/
import Derived.Test.YtodcbejdlnikgaaCsumLaws4
import Derived.Test.YtodcbejdlnikgaaUdpPlain
import Derived.Test.YtodcbejdlnikgaaBytes
import Derived.Deep.RegionHeld3
import Derived.StillTailTactics
namespace Go.Proofs.Ytodcbejdlnikgaa
open Go.RowKit
set_option linter.unusedVariables false
theorem i64_join (x y : Int) (hx0 : 0 ≤ x) (hx1 : x ≤ 255) (hy0 : 0 ≤ y) (hy1 : y ≤ 255) : bits .or .i64 (x * 256) y = x * 256 + y := by
  obtain ⟨a, rfl⟩ := Int.eq_ofNat_of_zero_le hx0
  obtain ⟨b, rfl⟩ := Int.eq_ofNat_of_zero_le hy0
  have e : ((a : Int) * 256) = ((a * 256 : Nat) : Int) := by omega
  have h1 : (BitVec.ofInt 64 ((a * 256 : Nat) : Int)).toNat = a * 256 := by rw [BitVec.ofInt_natCast, BitVec.toNat_ofNat]; exact Nat.mod_eq_of_lt (by omega)
  have h2 : (BitVec.ofInt 64 (b : Int)).toNat = b := by rw [BitVec.ofInt_natCast, BitVec.toNat_ofNat]; exact Nat.mod_eq_of_lt (by omega)
  rw [e]
  show IntKind.i64.wrap ((BitVec.ofInt 64 ((a * 256 : Nat) : Int) ||| BitVec.ofInt 64 (b : Int)).toNat : Int) = _
  rw [BitVec.toNat_or, h1, h2, nat_join 8 (a * 256) b (by omega) (by omega), IntKind.wrap_i64]
  omega
attribute [local go_sem] u64_low16 u32_low16 u16_not u16_signed u64_of_u16 i64_join
theorem csum_pseudoP (a b p q : Int) (w : World) (ha0 : 0 ≤ a) (ha1 : a ≤ 4294967295) (hb0 : 0 ≤ b) (hb1 : b ≤ 4294967295) :
    Calls Try.prog 22 #[.int .u32 a, .int .u32 b, .int .i64 p, .int .i64 q] w fun e w' => e = .returned (.int .u16 (Csum.pseudo a b p q)) ∧ w = w' :=
  csum_pseudo a b p q w ha0 ha1 hb0 hb1
theorem Csum.pseudo_bd {a b p q : Int} (ha0 : 0 ≤ a) (hb0 : 0 ≤ b) : 0 ≤ Csum.pseudo a b p q ∧ Csum.pseudo a b p q ≤ 65535 := Csum.fold_bd (by omega)
set_option maxHeartbeats 400000 in
theorem udp_port (n : Int) (w : World) :
    Calls Try.prog 38 #[.int .i64 n] w fun e w' => e = .returned (.bool (Udp.portB n)) ∧ w = w' := by
  go_enter Try.func38, Try.ntmps38
  go_wp2
  all_goals
    go_ret
    exact ⟨ret_bool (by unfold Udp.portB; rw [Bool.eq_iff_iff]; simp <;> omega), rfl⟩
set_option maxHeartbeats 400000 in
theorem udp_get (b off n c : Nat) (x y : Int) (w : World) (hn : 2 ≤ n) (hx : w.cell? ⟨b, off, none⟩ = some (.int .u8 x)) (hy : w.cell? ⟨b, off + 1, none⟩ = some (.int .u8 y))
    (hx0 : 0 ≤ x) (hx1 : x ≤ 255) (hy0 : 0 ≤ y) (hy1 : y ≤ 255) :
    Calls Try.prog 34 #[.slice (some ⟨b, off, none⟩) n c] w fun e w' => e = .returned (.int .i64 (x * 256 + y)) ∧ ∃ q, w' = w.drewN q := by
  have h1 : (1 : Int) < (n : Int) := by omega
  have h0 : (0 : Int) < (n : Int) := by omega
  go_enter Try.func34, Try.ntmps34
  go_wp2
  go_quiet (fail)
  go_wp2
  go_ret
  exact ⟨rfl, nq, rfl⟩
set_option maxHeartbeats 400000 in
theorem udp_sum (A : Option Addr) (n c : Nat) (l : List Int) (s d : Int) (w : World) (h : Rd w 1 A n (bs l)) (hb : isB l) (hn : n ≤ 140737488355328)
    (hs0 : 0 ≤ s) (hs1 : s ≤ 4294967295) (hd0 : 0 ≤ d) (hd1 : d ≤ 4294967295) :
    Calls Try.prog 35 #[.int .u32 s, .int .u32 d, .slice A n c] w fun e w' => e = .returned (.int .u16 (Udp.sum s d l)) ∧ w = w' := by
  have hl := h.blen
  obtain ⟨p0, p1⟩ := Csum.pseudo_bd (p := 17) (q := (n : Int)) hs0 hd0
  obtain ⟨s0, s1⟩ := Csum.sum_bd hb
  have e : Csum.fold (Csum.pseudo s d 17 n + Csum.sum l) = Udp.sum s d l := by unfold Udp.sum; rw [hl]
  have E := Lib.hid e
  clear e hl
  go_enter Try.func35, Try.ntmps35
  go_wp2_with (first | (go_at_call 22; refine (csum_pseudoP _ _ _ _ _ hs0 hs1 hd0 hd1).mono ?_; rintro e w' ⟨rfl, rfl⟩) | (go_at_call 16; refine (csum_sum _ _ _ _ _ h hb hn).mono ?_; rintro e w' ⟨rfl, rfl⟩) | (go_at_call 17; refine (csum_join _ _ _ (by omega) (by omega) (by omega) (by omega)).mono ?_; rintro e w' ⟨rfl, rfl⟩))
  go_ret
  exact ⟨ret_int E.out, rfl⟩
theorem box_cell (w : World) (cs : Array Value) (t : TypeId) (i : Nat) : (w.alloc (.cells cs t)).cell? ⟨w.heap.size, i, none⟩ = cs[i]? := cell_of_row _ _ i cs t (0, 0) (heap_alloc_new w _)
theorem rd_two (w : World) (e : TypeId) (x y : Int) : Rd (w.alloc (.cells #[.int .u8 x, .int .u8 y] e)) 1 (some ⟨w.heap.size, 0, none⟩) 2 (bs [x, y]) := by
  have h := World.ownsRow_lit (base := 0) (e := e) (size := 1) w #[.int .u8 x, .int .u8 y] 2 (Nat.zero_le _) (by simp [maxLen]) (by simp)
  exact Rd.of_own (xs := bs [x, y]) (by simpa [bs] using h)
set_option maxHeartbeats 400000 in
theorem udp_half (a0 : World) (n m : Nat) (A : Option Addr) (c : Nat) (l : List Int) (v : Int) (w : World) (hm : n + 2 = m) (hown : w.ownsRow a0.heap.size 5 1 (.slice A n c) n (bs l)) (hbel : Below a0.heap.size a0 w)
    (hv0 : 0 ≤ v) (hv1 : v ≤ 65535) (hn : n ≤ 65536) :
    Calls Try.prog 39 #[.slice A n c, .int .i64 v] w (RetB a0 5 m (l ++ [v / 256, v % 256])) := by
  have hsz := hbel.size
  subst hm
  go_enter Try.func39, Try.ntmps39
  go_wp2_with (at_builtin; refine wpList_app _ rfl (.tmp 5) (.tmp 11) 22 rfl a0 (by exact hbel.alloc hsz _) 5 (.int .u8 0) 1 1 Try.underlying22 info_u8 rfl (by decide) _ n (bs l) rfl (by exact hown.alloc _) (some ⟨w.heap.size, 0, none⟩) 2 2 (bs [v / 256, v % 256]) rfl (by exact rd_two w _ _ _) (one_bs _) (by unfold maxLen; omega) (by omega) ?_; intro A1 c1 w2 hown1 hbel1 hg1 hat1)
  go_ret
  rw [← bs_append] at hown1
  exact ⟨A1, c1, rfl, hown1, hbel1⟩
theorem own_base {w : World} {base base' : Nat} {e : TypeId} {s n : Nat} {v : Value} {xs : List Value} (h : w.ownsRow base e s v n xs) (hb : base' ≤ base) : w.ownsRow base' e s v n xs := by
  refine ⟨h.1, ?_⟩
  rcases h.2 with h0 | ⟨g, cap, cur, hv, hg, r⟩
  · exact .inl h0
  · exact .inr ⟨g, cap, cur, hv, by omega, r⟩
/-- What Put leaves: bytes in new memory, and an error. -/
def PutR (w : World) (e : TypeId) (err : Int) (l : List Int) (en : Ending) (w' : World) : Prop :=
  ∃ A c, en = .returned (.tuple #[.slice A l.length c, .int .i64 err]) ∧ w'.ownsRow w.heap.size e 1 (.slice A l.length c) l.length (bs l) ∧ Below w.heap.size w w'
set_option maxHeartbeats 1000000 in
theorem udp_put_no (A : Option Addr) (n c : Nat) (body : List Int) (s d sp dp : Int) (ns : Bool) (w : World) (hR : Rd w 1 A n (bs body)) (hn : n ≤ 9223372036854775799)
    (hf : Udp.fineB sp dp body = false) :
    Calls Try.prog 28 #[.int .u32 s, .int .u32 d, .agg #[.int .i64 sp, .int .i64 dp, .bool ns, .slice A n c]] w (PutR w 5 1 []) := by
  have hl := hR.blen
  have hfin : ∀ w', Below w.heap.size w w' → PutR w 5 1 [] (.returned (.tuple #[.slice none 0 0, .int .i64 1])) w' := fun w' hb => ⟨none, 0, rfl, World.ownsRow_nil _ _ _ _, hb⟩
  have HF := Lib.hid hfin
  clear hfin
  unfold Udp.fineB at hf
  cases h1 : Udp.portB sp
  · clear hf hl hR
    go_enter Try.func28, Try.ntmps28
    go_wp2_with (go_at_call 38; refine (udp_port _ _).mono ?_; rintro e w' ⟨rfl, rfl⟩)
    go_ret2
    exact HF.out _ ((Below.refl _ _).alloc (Nat.le_refl _) _)
  · cases h2 : Udp.portB dp
    · clear hf hl hR
      go_enter Try.func28, Try.ntmps28
      go_wp2_with (go_at_call 38; refine (udp_port _ _).mono ?_; rintro e w' ⟨rfl, rfl⟩)
      go_ret2
      exact HF.out _ ((Below.refl _ _).alloc (Nat.le_refl _) _)
    · rw [h1, h2] at hf
      simp only [Bool.true_and, decide_eq_false_iff_not] at hf
      have hn2 : (65535 : Int) < 8 + (n : Int) := by omega
      clear hf hl hR
      go_enter Try.func28, Try.ntmps28
      go_wp2_with (go_at_call 38; refine (udp_port _ _).mono ?_; rintro e w' ⟨rfl, rfl⟩)
      go_ret2
      exact HF.out _ ((Below.refl _ _).alloc (Nat.le_refl _) _)
set_option maxHeartbeats 1000000 in
theorem udp_put_yes (A : Option Addr) (n c : Nat) (body : List Int) (s d sp dp : Int) (ns : Bool) (w : World) (hR : Rd w 1 A n (bs body)) (hB : isB body)
    (hs0 : 0 ≤ s) (hs1 : s ≤ 4294967295) (hd0 : 0 ≤ d) (hd1 : d ≤ 4294967295) (hf : Udp.fineB sp dp body = true) :
    Calls Try.prog 28 #[.int .u32 s, .int .u32 d, .agg #[.int .i64 sp, .int .i64 dp, .bool ns, .slice A n c]] w (PutR w 5 0 (Udp.laid sp dp (Udp.check s d sp dp ns body) body)) := by
  have hl := hR.blen
  have hfine := Udp.fine_of hf
  obtain ⟨f1, f2, f3, f4, f5⟩ := hfine
  have hp1 : Udp.portB sp = true := by unfold Udp.portB; simp; omega
  have hp2 : Udp.portB dp = true := by unfold Udp.portB; simp; omega
  subst hl
  have HF := Lib.hid hf
  clear hf
  go_enter Try.func28, Try.ntmps28
  go_wp2_with (go_at_call 38; refine (udp_port _ _).mono ?_; rintro e w' ⟨rfl, rfl⟩)
  obtain ⟨wb, hwb⟩ : ∃ wb, wb = w.alloc (.cells #[.int .i64 sp, .int .i64 dp, .bool ns, .slice A body.length c] 37) := ⟨_, rfl⟩
  have b0 : wb.cell? ⟨w.heap.size, 0, none⟩ = some (.int .i64 sp) := by rw [hwb, box_cell]; rfl
  have b1 : wb.cell? ⟨w.heap.size, 1, none⟩ = some (.int .i64 dp) := by rw [hwb, box_cell]; rfl
  have b2 : wb.cell? ⟨w.heap.size, 2, none⟩ = some (.bool ns) := by rw [hwb, box_cell]; rfl
  have b3 : wb.cell? ⟨w.heap.size, 3, none⟩ = some (.slice A body.length c) := by rw [hwb, box_cell]; rfl
  have hlt : w.heap.size < wb.heap.size := by rw [hwb]; simp
  have hbw : Below w.heap.size w wb := by rw [hwb]; exact (Below.refl _ _).alloc (Nat.le_refl _) _
  have hRb := hR.below hbw
  rw [← hwb]
  clear hwb hR
  have hown0 : wb.drew.ownsRow wb.heap.size 5 1 (.slice none 0 0) 0 (bs []) := World.ownsRow_nil _ _ _ _
  have hb0 : Below wb.heap.size wb wb.drew := (Below.refl _ _).drew
  go_region_held3 (fun w' => w'.cell? ⟨w.heap.size, 0, none⟩ = some (.int .i64 sp) ∧ w'.cell? ⟨w.heap.size, 1, none⟩ = some (.int .i64 dp))
    (first
      | exact ⟨b0, b1⟩
      | exact ⟨(hbn.cell (p := ⟨w.heap.size, 0, none⟩) hlt).trans b0, (hbn.cell (p := ⟨w.heap.size, 1, none⟩) hlt).trans b1⟩)
    ((go_at_call 39; refine (udp_half wb _ _ _ _ _ _ _ rfl (by assumption) (by assumption) (by omega) (by omega) (by omega)).mono ?_; rintro e wn ⟨An, cn, rfl, hownn, hbn⟩))
  have d2 := (hbn.cell (p := ⟨w.heap.size, 2, none⟩) hlt).trans b2
  have d3 := (hbn.cell (p := ⟨w.heap.size, 3, none⟩) hlt).trans b3
  have hRn := hRb.below hbn
  clear b0 b1 hown0 hb0
  have hl0 : bs ([] ++ [sp / 256, sp % 256] ++ [dp / 256, dp % 256] ++ [(8 + (body.length : Int)) / 256, (8 + (body.length : Int)) % 256] ++ [0 / 256, 0 % 256]) ++ bs body = bs (Udp.laid sp dp 0 body) := by
    rw [← bs_append]; rfl
  have H0 := Lib.hid hl0
  clear hl0
  cases ns
  · go_wp2_with (at_builtin; refine wpList_app _ rfl (.tmp 38) (.tmp 40) 22 rfl wb hbn 5 (.int .u8 0) 1 1 Try.underlying22 info_u8 rfl (by decide) _ _ _ rfl hownn A body.length c (bs body) rfl hRn (one_bs _) (by unfold maxLen; omega) (by omega) ?_; intro A5 c5 w5 hown5 hb5 hg5 hat5; have e2 := (hb5.cell (p := ⟨w.heap.size, 2, none⟩) hlt).trans b2)
    rw [H0.out] at hown5
    have hfi := Udp.fine_of HF.out
    have hB0 : isB (Udp.laid sp dp 0 body) := Udp.laid_isB hfi (by omega) (by omega) hB
    obtain ⟨u0, u1⟩ := Udp.sum_bd (s := s) (d := d) hs0 hd0 hB0
    have hR5 := Rd.of_own hown5
    obtain ⟨g, rfl, hg0, hg1⟩ := own_head hown5 (by omega)
    obtain ⟨x6, hx6, _, _⟩ := own_cell hown5 (k := 6) (by omega)
    obtain ⟨x7, hx7, _, _⟩ := own_cell hown5 (k := 7) (by omega)
    have hf6 := hown5.frozenAt 6
    have hf7 := hown5.frozenAt 7
    have hlen : ∀ ck, (Udp.laid sp dp ck body).length = 6 + 2 + body.length := fun ck => Udp.laid_len _ _ _ _
    have hset : ∀ ck, ((Udp.laid sp dp 0 body).set 6 (ck / 256)).set 7 (ck % 256) = Udp.laid sp dp ck body := fun ck => rfl
    have hO := Lib.hid hown5
    have HLN := Lib.hid hlen
    have HST := Lib.hid hset
    clear hown5 hlen hset hat5 hg5 hownn d2 d3 hRn hRb b2 b3
    refine (udp_sum _ _ _ _ s d _ hR5 hB0 (by omega) hs0 hs1 hd0 hd1).mono ?_
    rintro e w' ⟨rfl, rfl⟩
    clear hR5
    by_cases hz : 65535 - Udp.sum s d (Udp.laid sp dp 0 body) = 0
    · have hz1 : (65535 - Udp.sum s d (Udp.laid sp dp 0 body) % 65536 == 0) = true := by rw [beq_iff_eq]; omega
      have hck : Udp.check s d sp dp false body = 65535 := by unfold Udp.check; rw [if_pos hz]; rfl
      have HCK := Lib.hid hck
      clear hz hck
      have hfin := own_set2' hO.out 6 7 255 255
      rw [show ((Udp.laid sp dp 0 body).set 6 255).set 7 255 = Udp.laid sp dp 65535 body from HST.out 65535] at hfin
      have hbf := (hb5.setCell (p := ⟨g, 6, none⟩) hg0 (.int .u8 255)).setCell (p := ⟨g, 7, none⟩) hg0 (.int .u8 255)
      have HFI := Lib.hid hfin
      clear hfin
      go_wp2
      go_ret2
      refine ⟨some ⟨g, 0, none⟩, c5, ?_, ?_, bel_then hbw hbf⟩
      · rw [HLN.out]; rfl
      · rw [HCK.out, HLN.out]; exact own_base HFI.out hbw.size
    · have hz1 : (65535 - Udp.sum s d (Udp.laid sp dp 0 body) % 65536 == 0) = false := by rw [beq_eq_false_iff_ne]; omega
      have hck : Udp.check s d sp dp false body = 65535 - Udp.sum s d (Udp.laid sp dp 0 body) := by unfold Udp.check; rw [if_neg hz]; rfl
      have hm : Udp.sum s d (Udp.laid sp dp 0 body) % 65536 = Udp.sum s d (Udp.laid sp dp 0 body) := by omega
      have HCK := Lib.hid hck
      clear hz hck
      have hfin := own_set2' hO.out 6 7 ((65535 - Udp.sum s d (Udp.laid sp dp 0 body)) / 256) ((65535 - Udp.sum s d (Udp.laid sp dp 0 body)) % 256)
      rw [HST.out] at hfin
      have hbf := (hb5.setCell (p := ⟨g, 6, none⟩) hg0 (.int .u8 ((65535 - Udp.sum s d (Udp.laid sp dp 0 body)) / 256))).setCell (p := ⟨g, 7, none⟩) hg0 (.int .u8 ((65535 - Udp.sum s d (Udp.laid sp dp 0 body)) % 256))
      have HFI := Lib.hid hfin
      clear hfin
      go_wp2
      go_ret2
      refine ⟨some ⟨g, 0, none⟩, c5, ?_, ?_, bel_then hbw hbf⟩
      · rw [HLN.out]; rfl
      · rw [HCK.out, HLN.out]; exact own_base HFI.out hbw.size
  · go_wp2_with (at_builtin; refine wpList_app _ rfl (.tmp 38) (.tmp 40) 22 rfl wb hbn 5 (.int .u8 0) 1 1 Try.underlying22 info_u8 rfl (by decide) _ _ _ rfl hownn A body.length c (bs body) rfl hRn (one_bs _) (by unfold maxLen; omega) (by omega) ?_; intro A5 c5 w5 hown5 hb5 hg5 hat5; have e2 := (hb5.cell (p := ⟨w.heap.size, 2, none⟩) hlt).trans b2)
    go_ret2
    rw [H0.out] at hown5
    have hlen : (Udp.laid sp dp 0 body).length = 6 + 2 + body.length := Udp.laid_len _ _ _ _
    refine ⟨A5, c5, ?_, ?_, bel_then hbw hb5⟩
    · rw [show Udp.check s d sp dp true body = 0 from rfl, hlen]; rfl
    · rw [show Udp.check s d sp dp true body = 0 from rfl, hlen]; exact own_base hown5 hbw.size
end Go.Proofs.Ytodcbejdlnikgaa
