/- The walk of cookie.Check. -/
import Derived.Test.YtpidpbjbgjkaaaaDoorCookMade
namespace Go.Proofs.YtpidpbjbgjkaaaaDoor
open Go.RowKit
set_option maxRecDepth 8000
set_option linter.unusedVariables false
attribute [local go_sem ↓] Go.wp_at_zero Go.wp_at_succ
set_option maxHeartbeats 2000000 in
theorem ccheck1_spec (k : Mac.Key) (g1 g2 g3 g4 g5 : Nat) (t : Cook.Tup) (hw : t.wf) (sq e pl ck : Int) (hs0 : 0 ≤ sq) (hs1 : sq ≤ 4294967295) (he0 : 0 ≤ e) (hp0 : 0 ≤ pl) (hp1 : pl ≤ 7) (W : World) (hT : Tabs W) (hk : k.ok W)
    (h1 : BlkV W g1 25 [.int .i64 t.proto, .int .u32 t.src, .int .i64 t.sport, .int .u32 t.dst, .int .i64 t.dport]) (h2 : W.cell? ⟨g2, 0, none⟩ = some (.int .u32 sq)) (h3 : W.cell? ⟨g3, 0, none⟩ = some (.int .i64 e)) (h4 : W.cell? ⟨g4, 0, none⟩ = some (.int .i64 pl)) (h5 : W.cell? ⟨g5, 0, none⟩ = some (.int .u32 ck)) (l2 : g2 < W.heap.size) (l3 : g3 < W.heap.size) (l4 : g4 < W.heap.size) (l5 : g5 < W.heap.size) :
    Calls Tryd.prog 46 #[.slice k.A k.n k.c, .pointer (some ⟨g1, 0, none⟩), .pointer (some ⟨g2, 0, none⟩), .pointer (some ⟨g3, 0, none⟩), .pointer (some ⟨g4, 0, none⟩), .pointer (some ⟨g5, 0, none⟩)] W fun x w' => x = .returned (.bool (Cook.one k.l t sq e pl == ck)) ∧ Below W.heap.size W w' := by
  have KF : Hid (∀ w' : World, Below W.heap.size W w' → w'.cell? ⟨g1, 0, none⟩ = some (.int .i64 t.proto) ∧ w'.cell? ⟨g1, 1, none⟩ = some (.int .u32 t.src) ∧ w'.cell? ⟨g1, 2, none⟩ = some (.int .i64 t.sport) ∧ w'.cell? ⟨g1, 3, none⟩ = some (.int .u32 t.dst) ∧ w'.cell? ⟨g1, 4, none⟩ = some (.int .i64 t.dport) ∧ w'.cell? ⟨g2, 0, none⟩ = some (.int .u32 sq) ∧ w'.cell? ⟨g3, 0, none⟩ = some (.int .i64 e) ∧ w'.cell? ⟨g4, 0, none⟩ = some (.int .i64 pl) ∧ w'.cell? ⟨g5, 0, none⟩ = some (.int .u32 ck)) := Lib.hid fun w' hb => by
    obtain ⟨a0, a1, a2, a3, a4⟩ := tup_c5 W t g1 h1 w' hb
    exact ⟨a0, a1, a2, a3, a4, (hb.cell (p := ⟨g2, 0, none⟩) l2).trans h2, (hb.cell (p := ⟨g3, 0, none⟩) l3).trans h3, (hb.cell (p := ⟨g4, 0, none⟩) l4).trans h4, (hb.cell (p := ⟨g5, 0, none⟩) l5).trans h5⟩
  have HC : Hid (∀ w' : World, Below W.heap.size W w' → Calls Tryd.prog 38 #[.slice k.A k.n k.c, .agg #[.int .i64 t.proto, .int .u32 t.src, .int .i64 t.sport, .int .u32 t.dst, .int .i64 t.dport], .int .u32 sq, .int .i64 e, .int .i64 pl] w' fun e' w'' => e' = .returned (.int .u32 (Cook.one k.l t sq e pl)) ∧ Below w'.heap.size w' w'') := Lib.hid fun w' hb =>
    cmade_spec k.A k.n k.c k.l t hw sq e pl hs0 hs1 he0 hp0 hp1 w' (hT.below hb) (hk.rd.below hb) hk.by8 (by have := hk.small; omega)
  generalize Cook.one k.l t sq e pl = v at HC ⊢
  obtain ⟨KA, kn, kc, kl⟩ := k
  simp only at HC ⊢
  clear hT hk h1
  go_enter Tryd.func46, Tryd.ntmps46
  go_wp2_with fail
  go_region_held3 (fun w' => w'.cell? ⟨g1, 0, none⟩ = some (.int .i64 t.proto) ∧ w'.cell? ⟨g1, 1, none⟩ = some (.int .u32 t.src) ∧ w'.cell? ⟨g1, 2, none⟩ = some (.int .i64 t.sport) ∧ w'.cell? ⟨g1, 3, none⟩ = some (.int .u32 t.dst) ∧ w'.cell? ⟨g1, 4, none⟩ = some (.int .i64 t.dport) ∧ w'.cell? ⟨g2, 0, none⟩ = some (.int .u32 sq) ∧ w'.cell? ⟨g3, 0, none⟩ = some (.int .i64 e) ∧ w'.cell? ⟨g4, 0, none⟩ = some (.int .i64 pl) ∧ w'.cell? ⟨g5, 0, none⟩ = some (.int .u32 ck)) (exact KF.out _ (by repeat (first | with_reducible exact hbn | with_reducible exact Below.refl W.heap.size W | with_reducible refine bel_al2 ?_ _ | with_reducible refine bel_dr2 ?_ | with_reducible refine bel_drN2 ?_ _)))
    (with_reducible first | (refine (HC.out _ (by repeat (first | with_reducible exact hbn | with_reducible exact Below.refl W.heap.size W | with_reducible refine bel_al2 ?_ _ | with_reducible refine bel_dr2 ?_ | with_reducible refine bel_drN2 ?_ _))).mono ?_; rintro x w9 ⟨rfl, hb9⟩; have hbn : Below W.heap.size W w9 := bel_then (by repeat (first | with_reducible exact hbn | with_reducible exact Below.refl W.heap.size W | with_reducible refine bel_al2 ?_ _ | with_reducible refine bel_dr2 ?_ | with_reducible refine bel_drN2 ?_ _)) hb9))
  all_goals
    go_wp2_with fail
    go_ret
    exact ⟨rfl, (by repeat (first | with_reducible exact hbn | with_reducible exact Below.refl W.heap.size W | with_reducible refine bel_al2 ?_ _ | with_reducible refine bel_dr2 ?_ | with_reducible refine bel_drN2 ?_ _))⟩
/-- does the round of epoch ep - k answer? -/
def Cook.H (ls : List (List Int)) (t : Cook.Tup) (sq ep c : Int) (k : Nat) : Bool := decide (0 ≤ ep - k ∧ (ep - k) % 32 = c / 134217728) && Cook.hit ls t sq (ep - k) (c / 16777216 % 8) c
theorem Cook.checkB_H (ls : List (List Int)) (t : Cook.Tup) (sq ep c : Int) (hm : Cook.may t ep = true) (hl : ls.length ≤ 2) : Cook.checkB ls t sq ep c = (Cook.H ls t sq ep c 0 || Cook.H ls t sq ep c 1) := by
  have he : 0 ≤ ep := by simp [Cook.may] at hm; omega
  have h1 : (0 ≤ ep - 1) = (1 ≤ ep) := by rw [eq_iff_iff]; omega
  unfold Cook.checkB Cook.H
  simp [hm, hl, he]; try omega
set_option maxHeartbeats 4000000 in
theorem ccheck_spec (A : Option Addr) (n c : Nat) (rs : List Mac.Key) (t : Cook.Tup) (hw : t.wf) (sq ep ck : Int) (hs0 : 0 ≤ sq) (hs1 : sq ≤ 4294967295) (hc0 : 0 ≤ ck) (hc1 : ck ≤ 4294967295) (w : World) (hT : Tabs w) (hr : Mac.Ring w A n rs) (hbig : n ≤ 9223372036854775807) :
    Calls Tryd.prog 30 #[.slice A n c, .agg #[.int .i64 t.proto, .int .u32 t.src, .int .i64 t.sport, .int .u32 t.dst, .int .i64 t.dport], .int .u32 sq, .int .i64 ep, .int .u32 ck] w fun e w' => e = .returned (.tuple #[.int .i64 (Cook.checkN (rs.map (·.l)) t sq ep ck), .bool (Cook.checkB (rs.map (·.l)) t sq ep ck)]) ∧ Below w.heap.size w w' := by
  obtain ⟨V, hV⟩ : ∃ V, V = ((w.alloc (.cells #[.int .i64 t.proto, .int .u32 t.src, .int .i64 t.sport, .int .u32 t.dst, .int .i64 t.dport] 25)).alloc (.cells #[.int .u32 sq] 23)).alloc (.cells #[.int .u32 ck] 23) := ⟨_, rfl⟩
  have hbV : Below w.heap.size w V := by rw [hV]; exact (((Below.refl _ _).alloc (Nat.le_refl _) _).alloc (by simp) _).alloc (by simp; omega) _
  have hsV : V.heap.size = w.heap.size + 3 := by rw [hV]; simp
  have B1 : BlkV V w.heap.size 25 [.int .i64 t.proto, .int .u32 t.src, .int .i64 t.sport, .int .u32 t.dst, .int .i64 t.dport] := by rw [hV]; exact ((BlkV.new w _ _).alloc _).alloc _
  have B2 : BlkV V (w.heap.size + 1) 23 [.int .u32 sq] := by rw [hV]; exact ((BlkV.new_at (w.alloc (.cells #[.int .i64 t.proto, .int .u32 t.src, .int .i64 t.sport, .int .u32 t.dst, .int .i64 t.dport] 25)) _ _ (by simp)).alloc _)
  have B3 : BlkV V (w.heap.size + 1 + 1) 23 [.int .u32 ck] := by rw [hV]; exact (BlkV.new_at ((w.alloc (.cells #[.int .i64 t.proto, .int .u32 t.src, .int .i64 t.sport, .int .u32 t.dst, .int .i64 t.dport] 25)).alloc (.cells #[.int .u32 sq] 23)) _ _ (by simp))
  have KT := Lib.hid (tup_c5 V t w.heap.size B1)
  obtain ⟨a0, a1, a2, a3, a4⟩ := KT.out V (Below.refl _ _)
  have hl := hr.len
  have HM := Lib.hid (cmay_spec t ep V)
  obtain ⟨pl, hpl⟩ : ∃ pl, pl = ck / 16777216 % 8 := ⟨_, rfl⟩
  obtain ⟨sp, hsp⟩ : ∃ sp, sp = ck / 134217728 := ⟨_, rfl⟩
  have hp0 : 0 ≤ pl := by omega
  have hp1 : pl ≤ 7 := by omega
  obtain ⟨b, hb⟩ : ∃ b, Cook.checkB (rs.map (·.l)) t sq ep ck = b := ⟨_, rfl⟩
  obtain ⟨nn, hnn⟩ : ∃ nn, Cook.checkN (rs.map (·.l)) t sq ep ck = nn := ⟨_, rfl⟩
  have HN : Hid (nn = if b = true then Cook.sizeAt pl.toNat else 0) := Lib.hid (by rw [← hnn, ← hb, hpl]; rfl)
  have HB : Hid (b = (Cook.may t ep && decide (n ≤ 2) && (Cook.H (rs.map (·.l)) t sq ep ck 0 || Cook.H (rs.map (·.l)) t sq ep ck 1))) := Lib.hid (by
    rw [← hb]
    by_cases hm : Cook.may t ep = true
    · by_cases h2 : n ≤ 2
      · rw [Cook.checkB_H _ t sq ep ck hm (by rw [List.length_map]; omega)]; simp [hm, h2]
      · unfold Cook.checkB; simp [hl, h2]
    · unfold Cook.checkB; simp [hm])
  rw [hb, hnn]
  clear hb hnn
  have hmay : Hid (Cook.may t ep = true → 0 ≤ ep ∧ ep ≤ 2147483647) := Lib.hid fun hm => by simp [Cook.may] at hm; omega
  generalize Cook.may t ep = m at HM HB hmay
  cases m
  · obtain rfl : b = false := by rw [HB.out]; simp
    obtain rfl : nn = 0 := by rw [HN.out]; simp
    go_enter Tryd.func30, Tryd.ntmps30
    go_upto_region 1 with (fail)
    rw [← hV]
    clear hV
    go_wp2_with fail
    refine HM.out.mono ?_
    rintro e w1 ⟨rfl, hb1⟩
    go_wp2_with fail
    go_ret2
    exact ⟨rfl, bel_then hbV hb1⟩
  by_cases h2 : ¬ n ≤ 2
  · obtain rfl : b = false := by rw [HB.out]; simp [h2]
    obtain rfl : nn = 0 := by rw [HN.out]; simp
    have hz : (2 : Int) < (n : Int) := by omega
    go_enter Tryd.func30, Tryd.ntmps30
    go_upto_region 1 with (fail)
    rw [← hV]
    clear hV
    go_wp2_with fail
    refine HM.out.mono ?_
    rintro e w1 ⟨rfl, hb1⟩
    go_wp2_with fail
    go_ret2
    exact ⟨rfl, bel_then hbV hb1⟩
  have h2 : n ≤ 2 := by omega
  have hz : ¬ (2 : Int) < (n : Int) := by omega
  obtain ⟨he0, he1⟩ := hmay.out rfl
  have hA7 : Go.bits .and .u32 (ck / 16777216) 7 = pl := by rw [hpl]; exact bits_low .u32 3 7 rfl rfl (by decide) _
  have hspr : ck / 134217728 = sp := hsp.symm
  have hsp0 : 0 ≤ sp := by omega
  have hsp1 : sp ≤ 31 := by omega
  have HB' : Hid (b = (Cook.H (rs.map (·.l)) t sq ep ck 0 || Cook.H (rs.map (·.l)) t sq ep ck 1)) := Lib.hid (by rw [HB.out]; simp [h2])
  have HH : Hid (∀ k : Nat, Cook.H (rs.map (·.l)) t sq ep ck k = (decide (0 ≤ ep - k ∧ (ep - k) % 32 = sp) && Cook.hit (rs.map (·.l)) t sq (ep - k) pl ck)) := Lib.hid fun k => by rw [hpl, hsp]; rfl
  have eg : ∀ args w, (callFunc 46 args).run Tryd.prog w = .ok (.enter 46 args) w := enters_of Tryd.func46 (by kernel_rfl) rfl
  have HQ : Hid (∀ (wx : World) (g gp : Nat) (x : Int), Below V.heap.size V wx → 0 ≤ x → BlkV wx g 3 [.int .i64 x] → BlkV wx gp 3 [.int .i64 pl] → Calls Tryd.prog 45 #[.slice A n c, .func (.func 46) #[] #[.pointer (some ⟨w.heap.size, 0, none⟩), .pointer (some ⟨w.heap.size + 1, 0, none⟩), .pointer (some ⟨g, 0, none⟩), .pointer (some ⟨gp, 0, none⟩), .pointer (some ⟨w.heap.size + 1 + 1, 0, none⟩)]] wx fun e w' => e = .returned (.bool (Cook.hit (rs.map (·.l)) t sq x pl ck)) ∧ Below wx.heap.size wx w') := Lib.hid fun wx g gp x hb hx0 hg hp => by
    have hTx := (hT.below hbV).below hb
    have hrx := (hr.below hbV).below hb
    have hpk : PredK 46 #[.pointer (some ⟨w.heap.size, 0, none⟩), .pointer (some ⟨w.heap.size + 1, 0, none⟩), .pointer (some ⟨g, 0, none⟩), .pointer (some ⟨gp, 0, none⟩), .pointer (some ⟨w.heap.size + 1 + 1, 0, none⟩)] (fun k : Mac.Key => Cook.one k.l t sq x pl == ck) wx := fun W k hk hbW =>
      ccheck1_spec k w.heap.size (w.heap.size + 1) g gp (w.heap.size + 1 + 1) t hw sq x pl ck hs0 hs1 hx0 hp0 hp1 W (hTx.below hbW) hk ((B1.below hb).below hbW) (((B2.below hb).below hbW).cell (i := 0) rfl) ((hg.below hbW).cell (i := 0) rfl) ((hp.below hbW).cell (i := 0) rfl) (((B3.below hb).below hbW).cell (i := 0) rfl)
        ((B2.below hb).below hbW).lt (hg.below hbW).lt (hp.below hbW).lt ((B3.below hb).below hbW).lt
    have h := containsK_spec 46 _ (fun k : Mac.Key => Cook.one k.l t sq x pl == ck) A n c rs wx eg hpk hrx hbig
    have e : Cook.hit (rs.map (·.l)) t sq x pl ck = rs.any (fun k => Cook.one k.l t sq x pl == ck) := by unfold Cook.hit; rw [List.any_map]; rfl
    rw [e]
    exact h
  have L3 : w.heap.size + 1 + 1 < V.heap.size := by omega
  clear HB hmay h2 hpl hsp hT hr hbig eg hl B1 KT
  go_enter Tryd.func30, Tryd.ntmps30
  go_upto_region 1 with (fail)
  rw [← hV]
  clear hV
  go_wp2_with fail
  refine HM.out.mono ?_
  rintro e w1 ⟨rfl, hb1⟩
  clear HM a0 a1 a2 a3 a4
  have C3 := (B3.below hb1).cell (i := 0) rfl
  have L4 : w.heap.size + 1 + 1 < w1.heap.size := (B3.below hb1).lt
  obtain ⟨W1, hW1⟩ : ∃ W1, W1 = w1.alloc (.cells #[.int .i64 pl] 3) := ⟨_, rfl⟩
  have hb2 : Below V.heap.size V W1 := by rw [hW1]; exact hb1.alloc hb1.size _
  have BP : BlkV W1 w1.heap.size 3 [.int .i64 pl] := by rw [hW1]; exact BlkV.new _ _ _
  go_upto_region 5 with (fail)
  rw [← hW1]
  clear hW1 C3 L4 B2 B3 L3 hsV
  go_wp2_with fail
  go_loopg [14] 2 (fun gg s14 wx => ∃ (k g : Nat), k + gg = 2 ∧ s14 = .pointer (some ⟨g, 0, none⟩) ∧ W1.heap.size ≤ g ∧ BlkV wx g 3 [.int .i64 (ep - k)] ∧ Below W1.heap.size W1 wx ∧ Hid (∀ j, j < k → Cook.H (rs.map (·.l)) t sq ep ck j = false))
  case atStart => exact ⟨0, _, rfl, rfl, Nat.le_refl _, (BlkV.new W1 _ [.int .i64 ep]).fit (by simp), (Below.refl _ _).alloc (Nat.le_refl _) _, Lib.hid fun j hj => absurd hj (by omega)⟩
  case round =>
    obtain ⟨k, g, hk, rfl, hge, hB, hbx, hall⟩ := hrel
    have HB := Lib.hid hB
    obtain ⟨x, hx⟩ : ∃ x, x = ep - k := ⟨_, rfl⟩
    have HX := Lib.hid hx
    have hx0 : x + k ≤ ep := by omega
    have hx1 : ep ≤ x + k := by omega
    rw [← hx] at hB
    have hc := hB.cell (i := 0) rfl
    have hlt := hB.lt
    have HBX := Lib.hid hB
    clear hB hx
    have HE : Hid (k = 1 → x < 0 → Cook.H (rs.map (·.l)) t sq ep ck 1 = false) := Lib.hid fun h1 hx => by
      rw [HH.out 1, decide_eq_false (by omega)]; rfl
    by_cases hin : ¬ (0 ≤ x ∧ k ≤ 1)
    · have HF : Hid (b = false ∧ nn = 0) := Lib.hid (by
        have hb : b = false := by
          rw [HB'.out]
          rcases (show k = 2 ∨ (k = 1 ∧ x < 0) by omega) with h | ⟨h, hx⟩
          · rw [hall.out 0 (by omega), hall.out 1 (by omega)]; rfl
          · rw [hall.out 0 (by omega), HE.out h hx]; rfl
        exact ⟨hb, by rw [HN.out, hb]; rfl⟩)
      have hbF := bel_then hbV (bel_then hb2 hbx)
      clear HB' HH HQ HE hall HX HN HB HBX
      by_cases h1 : 1 ≤ ep
      · have hlo : x < ep - 1 := by omega
        go_wp2_with fail
        go_ret2
        obtain ⟨rfl, rfl⟩ := HF.out
        exact ⟨rfl, hbF⟩
      · have hlo : x < 0 := by omega
        go_wp2_with fail
        go_ret2
        obtain ⟨rfl, rfl⟩ := HF.out
        exact ⟨rfl, hbF⟩
    · obtain ⟨hx2, hk2⟩ : 0 ≤ x ∧ k ≤ 1 := by omega
      clear hin HE
      obtain ⟨y, hy⟩ : ∃ y, Int.tmod x 32 = y := ⟨_, rfl⟩
      have HY : Hid (x % 32 = y) := Lib.hid (by rw [← hy, Int.tmod_eq_emod_of_nonneg hx2])
      have hy0 : 0 ≤ y ∧ y ≤ 31 := by have := HY.out; omega
      obtain ⟨hy0, hy1⟩ := hy0
      have HK : Hid (Cook.H (rs.map (·.l)) t sq ep ck k = (decide (y = sp) && Cook.hit (rs.map (·.l)) t sq x pl ck)) := Lib.hid (by
        rw [HH.out k, ← HX.out, HY.out]
        congr 1
        rw [decide_eq_decide]
        exact ⟨fun h => h.2, fun h => ⟨hx2, h⟩⟩)
      have HQ1 := Lib.hid (HQ.out wr g w1.heap.size x ((hb2.trans (hbx.mono hb2.size))) hx2 HBX.out (BP.below hbx))
      have HG : Hid (Cook.H (rs.map (·.l)) t sq ep ck k = true → b = true ∧ nn = Cook.sizeAt pl.toNat) := Lib.hid fun h => by
        have hb : b = true := by
          rw [HB'.out]
          rcases (show k = 0 ∨ k = 1 by omega) with rfl | rfl
          · rw [h]; rfl
          · rw [h]; simp
        exact ⟨hb, by rw [HN.out, if_pos hb]⟩
      have HA : Hid (Cook.H (rs.map (·.l)) t sq ep ck k = false → ∀ j, j < k + 1 → Cook.H (rs.map (·.l)) t sq ep ck j = false) := Lib.hid fun h j hj => by
        rcases (show j = k ∨ j < k by omega) with rfl | hj
        · exact h
        · exact hall.out j hj
      generalize Cook.hit (rs.map (·.l)) t sq x pl ck = q at HK HQ1
      have hbF := bel_then hbV (bel_then hb2 hbx)
      have HXk : Hid (ep - ((k + 1 : Nat) : Int) = x - 1) := Lib.hid (by rw [HX.out]; omega)
      have hpc := (BP.below hbx).cell (i := 0) rfl
      have hpl := (BP.below hbx).lt
      clear HH HQ HX HN HB HB' hall
      rcases (show (1 ≤ ep ∧ ep - 1 ≤ x) ∨ ¬ 1 ≤ ep by omega) with ⟨h1, h1x⟩ | h1
      all_goals
        by_cases hs : y = sp
        · subst hs
          go_wp2_with fail
          refine HQ1.out.mono ?_
          rintro e w3 ⟨rfl, hb3⟩
          cases q
          · have hc3 := (HBX.out.below hb3).cell (i := 0) rfl
            go_wp2_with fail
            cases gk with
            | zero => omega
            | succ g0 =>
              go_roundg g0
              case measure => omega
              case rel => exact ⟨k + 1, _, by omega, rfl, Nat.le_trans hbx.size hb3.size, (BlkV.new w3 _ [.int .i64 (x - 1)]).fit (by rw [HXk.out]), bel_al2 (bel_then hbx hb3) _, Lib.hid (HA.out (by rw [HK.out]; simp))⟩
          · obtain ⟨hb, hn⟩ := HG.out (by rw [HK.out]; simp)
            subst hb
            have HNN := Lib.hid hn
            clear hn
            obtain ⟨W, hW⟩ : ∃ W, W = w3 := ⟨_, rfl⟩
            have hbW := bel_then hbF hb3
            have BP3 := (BP.below hbx).below hb3
            rw [← hW] at hbW BP3
            clear HQ1 HG HK HA HXk hbF
            go_wp2_with fail
            rw [← hW]
            clear hW
            have KP : Hid (∀ w' : World, Below W.heap.size W w' → w'.cell? ⟨w1.heap.size, 0, none⟩ = some (.int .i64 pl)) := Lib.hid fun w' hb => (BP3.below hb).cell (i := 0) rfl
            obtain ⟨p, rfl⟩ := Int.eq_ofNat_of_zero_le hp0
            have KP' := KP.out W (Below.refl _ _)
            have KS : Hid (∀ (w' : World) (g9 : Nat), BlkV w' g9 3 (Cook.sizes.map (Value.int .i64)) → w'.cell? ⟨g9, p, none⟩ = some (.int .i64 nn)) := Lib.hid fun w' g9 h => by rw [HNN.out, Int.toNat_natCast]; exact h.cell (Cook.size_get (by omega))
            have hp8 : (p : Int) < 8 := by omega
            clear BP BP3 HBX hpc hbx hge hlt hc hb1 hb2 hb3 hpl
            go_region_with (go_at_call 39; refine (csizes_spec _).mono ?_; rintro e w9 ⟨g9, rfl, hv, hb9⟩; have hbn : Below W.heap.size W w9 := bel_then (by repeat (first | with_reducible exact hbn | with_reducible exact Below.refl W.heap.size W | with_reducible refine bel_al2 ?_ _ | with_reducible refine bel_dr2 ?_ | with_reducible refine bel_drN2 ?_ _)) hb9; have hcv := KS.out w9 g9 hv; have hkp := KP.out w9 hbn; clear hv)
            all_goals
              go_wp2_with fail
              go_ret2
              exact ⟨rfl, bel_then hbW (by repeat (first | with_reducible exact hbn | with_reducible exact Below.refl W.heap.size W | with_reducible refine bel_al2 ?_ _ | with_reducible refine bel_dr2 ?_ | with_reducible refine bel_drN2 ?_ _))⟩
        · have HF : Hid (Cook.H (rs.map (·.l)) t sq ep ck k = false) := Lib.hid (by rw [HK.out]; simp [hs])
          have hs' : ¬ sp = y := fun h => hs h.symm
          clear HQ1 HG HK
          go_wp2_with fail
          cases gk with
          | zero => omega
          | succ g0 =>
            go_roundg g0
            case measure => omega
            case rel => exact ⟨k + 1, _, by omega, rfl, hbx.size, (BlkV.new wr _ [.int .i64 (x - 1)]).fit (by rw [HXk.out]), bel_al2 hbx _, Lib.hid (HA.out HF.out)⟩
end Go.Proofs.YtpidpbjbgjkaaaaDoor
