/- The walk of CookieKnows. -/
import Derived.Test.YtdnboohhplnnhaaDoorCookAw
import Derived.Test.YtdnboohhplnnhaaDoorMacRef2
import Derived.Test.YtdnboohhplnnhaaDoorBlkOps
namespace Go.Proofs.YtdnboohhplnnhaaDoor
open Go.RowKit
set_option linter.unusedVariables false
set_option linter.unusedSimpArgs false
attribute [local go_sem ↓] Go.wp_at_zero Go.wp_at_succ
namespace Cook
/-- what is known is a cookie of a key of the ring, of this epoch or the one ahead of it -/
theorem known_of {ls : List (List Int)} {t : Tup} {sq ep c : Int} (h : checkB ls t sq ep c = true) : ∃ (i d : Nat) (l : List Int), ls[i]? = some l ∧ d < 2 ∧ 0 ≤ ep - d ∧ one l t sq (ep - d) (c / 16777216 % 8) = c := by
  unfold checkB at h
  simp only [Bool.and_eq_true, Bool.or_eq_true, decide_eq_true_eq] at h
  obtain ⟨⟨hm, _⟩, h⟩ := h
  have hm : 0 ≤ ep := by simp [may] at hm; omega
  have key : ∀ e, hit ls t sq e (c / 16777216 % 8) c = true → ∃ (i : Nat) (l : List Int), ls[i]? = some l ∧ one l t sq e (c / 16777216 % 8) = c := fun e he => by
    unfold hit at he
    rw [List.any_eq_true] at he
    obtain ⟨l, hl, he⟩ := he
    obtain ⟨i, hi⟩ := List.getElem?_of_mem hl
    exact ⟨i, l, hi, by simpa using he⟩
  rcases h with ⟨_, h⟩ | ⟨h1, h⟩
  · obtain ⟨i, l, hi, he⟩ := key _ h
    exact ⟨i, 0, l, hi, by omega, by simpa using hm, by simpa using he⟩
  · obtain ⟨i, l, hi, he⟩ := key _ h
    exact ⟨i, 1, l, hi, by omega, by omega, by simpa using he⟩
theorem one_iff (l : List Int) (t : Tup) (sq e c : Int) (h0 : 0 ≤ c) : one l t sq e (c / 16777216 % 8) = c ↔ Mac.bits l (text t sq e (c / 16777216 % 8)) 24 = c % 16777216 ∧ e % 32 * 8 + c / 16777216 % 8 = c / 16777216 := by
  have h := bits24 l (text t sq e (c / 16777216 % 8))
  unfold one
  omega
theorem size_name {c : Int} : place (sizeAt (c / 16777216 % 8).toNat) = (c / 16777216 % 8).toNat := place_size (by omega)
end Cook
set_option maxRecDepth 12000 in
set_option maxHeartbeats 8000000 in
theorem cookieknows_walk (A : Option Addr) (n c : Nat) (l : List Int) (B : Option Addr) (m d : Nat) (lb : List Int) (t : Cook.Tup) (hw : t.wf) (sq ep mss ot : Int) (later : Bool) (hs0 : 0 ≤ sq) (hs1 : sq ≤ 4294967295) (ho0 : 0 ≤ ot) (ho1 : ot ≤ 4294967295) (w : World) (hT : Tabs w) (hK : TabK w) (hR : Rd w 1 A n (bs l)) (hB : isB l) (hRb : Rd w 1 B m (bs lb)) (hBb : isB lb) (hnc : n ≤ c) (hc : c ≤ 9223372036854775807) (hmd : m ≤ d) (hd : d ≤ 9223372036854775807)
    (hn : n ≤ 128) (hm : m ≤ 128) (he0 : 0 ≤ ep) (he1 : ep < 2147483647) :
    Calls Tryd.prog 6 #[.slice A n c, .slice B m d, .agg #[.int .i64 t.proto, .int .u32 t.src, .int .i64 t.sport, .int .u32 t.dst, .int .i64 t.dport], .int .u32 sq, .int .i64 ep, .int .i64 mss, .bool later, .int .u32 ot] w fun e w' => e = .returned (.bool true) ∧ Below w.heap.size w w' := by
  obtain ⟨W, hW⟩ : ∃ W, W = w.alloc (.cells #[.int .i64 t.proto, .int .u32 t.src, .int .i64 t.sport, .int .u32 t.dst, .int .i64 t.dport] 25) := ⟨_, rfl⟩
  have hbW : Below w.heap.size w W := by rw [hW]; exact (Below.refl _ _).alloc (Nat.le_refl _) _
  have BT : BlkV W w.heap.size 25 [.int .i64 t.proto, .int .u32 t.src, .int .i64 t.sport, .int .u32 t.dst, .int .i64 t.dport] := by rw [hW]; exact BlkV.new _ _ _
  have K5 : Hid (∀ w' : World, Below W.heap.size W w' → w'.cell? ⟨w.heap.size, 0, none⟩ = some (.int .i64 t.proto) ∧ w'.cell? ⟨w.heap.size, 1, none⟩ = some (.int .u32 t.src) ∧ w'.cell? ⟨w.heap.size, 2, none⟩ = some (.int .i64 t.sport) ∧ w'.cell? ⟨w.heap.size, 3, none⟩ = some (.int .u32 t.dst) ∧ w'.cell? ⟨w.heap.size, 4, none⟩ = some (.int .i64 t.dport)) := Lib.hid (tup_c5 W t w.heap.size BT)
  have HA := Lib.hid (cook_awake W (hT.below hbW))
  have HTW := Lib.hid (hT.below hbW)
  have HKW := Lib.hid (hK.below hbW)
  have HRA := Lib.hid (hR.below hbW)
  have HRB := Lib.hid (hRb.below hbW)
  have HBA := Lib.hid hB
  have HBB := Lib.hid hBb
  have HWF := Lib.hid hw
  have hln : Hid (l.length = n) := Lib.hid hR.blen
  have hlm : Hid (lb.length = m) := Lib.hid hRb.blen
  have g1 : ¬ (128 : Int) < (n : Int) := by omega
  have g2 : ¬ (128 : Int) < (m : Int) := by omega
  have g3 : ¬ ep < 0 := by omega
  have g4 : ¬ (2147483647 : Int) ≤ ep := by omega
  obtain ⟨pm, hpm⟩ : ∃ pm, Cook.place mss = pm := ⟨_, rfl⟩
  have hpm7 : pm ≤ 7 := by rw [← hpm]; exact Cook.place_le mss
  obtain ⟨v, hv⟩ : ∃ v, Cook.one l t sq ep pm = v := ⟨_, rfl⟩
  have hv01 : Hid (0 ≤ v ∧ v ≤ 4294967295) := Lib.hid (by rw [← hv]; have := Cook.one_parts l t sq ep (pl := pm) (by omega) (by omega); exact ⟨this.1, this.2.1⟩)
  obtain ⟨my, hmy⟩ : ∃ my, Cook.may t ep = my := ⟨_, rfl⟩
  have HM : Hid (∀ (w1 : World), Below W.heap.size W w1 → Calls Tryd.prog 8 #[.slice A n c, .agg #[.int .i64 t.proto, .int .u32 t.src, .int .i64 t.sport, .int .u32 t.dst, .int .i64 t.dport], .int .u32 sq, .int .i64 ep, .int .i64 mss] w1 fun e w' => e = .returned (.tuple #[.int .u32 (if my = true then v else 0), .int .i64 (if my = true then 0 else 1)]) ∧ Below w1.heap.size w1 w') := Lib.hid fun w1 hb => by
    rw [← hv, ← hmy, ← hpm]
    exact cmake_spec A n c l t hw sq ep mss hs0 hs1 w1 (HTW.out.below hb) (HRA.out.below hb) hB (by omega)
  have HS : Hid (∀ w, Calls Tryd.prog 10 #[.int .i64 mss] w fun e w' => e = .returned (.tuple #[.int .i64 pm, .int .i64 (Cook.sizeAt pm)]) ∧ Below w.heap.size w w') := Lib.hid fun w => by rw [← hpm]; exact csize_spec mss w
  have HC : Hid (∀ (w1 : World) (A' : Option Addr) (N c' : Nat) (rs : List Mac.Key) (e ck : Int), Below W.heap.size W w1 → Mac.Ring w1 A' N rs → N ≤ 2 → 0 ≤ ck → ck ≤ 4294967295 → Calls Tryd.prog 16 #[.slice A' N c', .agg #[.int .i64 t.proto, .int .u32 t.src, .int .i64 t.sport, .int .u32 t.dst, .int .i64 t.dport], .int .u32 sq, .int .i64 e, .int .u32 ck] w1 fun e' w' => e' = .returned (.tuple #[.int .i64 (Cook.checkN (rs.map (·.l)) t sq e ck), .bool (Cook.checkB (rs.map (·.l)) t sq e ck)]) ∧ Below w1.heap.size w1 w') := Lib.hid fun w1 A' N c' rs e ck hb hr h2 h0 h1 =>
    ccheck_spec A' N c' rs t hw sq e ck hs0 hs1 h0 h1 w1 (HTW.out.below hb) hr (by omega)
  have HKN : Hid (my = true → ∀ ls : List (List Int), ls.length ≤ 2 → l ∈ ls → Cook.checkB ls t sq ep v = true ∧ Cook.checkN ls t sq ep v = Cook.sizeAt pm ∧ Cook.checkB ls t sq (ep + 1) v = true ∧ Cook.checkN ls t sq (ep + 1) v = Cook.sizeAt pm) := Lib.hid fun h ls h2 hl => by
    rw [← hmy] at h
    have h' : Cook.may t (ep + 1) = true := by
      simp only [Cook.may, Bool.and_eq_true, decide_eq_true_eq] at h ⊢
      exact ⟨h.1, by omega, by omega⟩
    have := Cook.knows (ls := ls) (t := t) (sq := sq) (ep := ep) (pl := pm) (l := l) h2 hl hpm7 he0
    rw [hv] at this
    exact ⟨(this.1 h).1, (this.1 h).2, (this.2 h').1, (this.2 h').2⟩
  have HTX : Hid (∀ (e pl : Int) (w : World), _) := Lib.hid fun e pl => ctext_spec t hw sq e pl hs0 hs1
  have HTB : Hid (∀ (e pl : Int), isB (Cook.text t sq e pl)) := Lib.hid fun e pl => Cook.text_isB t sq e pl
  clear hT hK hR hB hRb hBb hw BT hpm hv hmy
  cases my
  · go_enter Tryd.func6, Tryd.ntmps6
    go_upto_region 1 with (fail)
    rw [← hW]
    clear hW
    go_wp2_with fail
    refine HA.out.mono ?_
    rintro e w1 ⟨rfl, hb1⟩
    obtain ⟨e0, e1, e2, e3, e4⟩ := K5.out w1 hb1
    go_wp2_with fail
    refine (HM.out w1 hb1).mono ?_
    rintro e w2 ⟨rfl, hb2⟩
    have hbF := bel_then hbW (bel_then hb1 hb2)
    clear HM HKN HC HS HTX K5 HA
    go_wp2_with fail
    go_ret
    exact ⟨rfl, hbF⟩
  simp only [if_true] at HM
  have HKN' := Lib.hid (HKN.out rfl)
  clear HKN
  go_enter Tryd.func6, Tryd.ntmps6
  go_upto_region 1 with (fail)
  rw [← hW]
  clear hW
  go_wp2_with fail
  refine HA.out.mono ?_
  rintro e w1 ⟨rfl, hb1⟩
  obtain ⟨e0, e1, e2, e3, e4⟩ := K5.out w1 hb1
  go_wp2_with fail
  refine (HM.out w1 hb1).mono ?_
  rintro e w2 ⟨rfl, hb2⟩
  have hb2' := bel_then hb1 hb2
  clear HM HA e0 e1 e2 e3 e4
  have HT1 : Hid (Calls Tryd.prog 18 #[.slice none 0 0, .slice A n c] w2 fun e w' => ∃ A' N c' rs', e = .returned (.tuple #[.slice A' N c', .int .i64 0]) ∧ Mac.Ring w' A' N rs' ∧ rs'.map (·.l) = [l] ∧ N = 1 ∧ N ≤ c' ∧ Below w2.heap.size w2 w') := Lib.hid (by
    refine (mturn_spec none 0 0 [] A n c l w2 (Mac.Ring.nil _ _) (Nat.le_refl _) (by omega) (HRA.out.below hb2') HBA.out (by omega)).mono ?_
    rintro e w' ⟨A', c', rs', rfl, hr, hm, hc, hb⟩
    have hlk := hln.out
    have hm2 : rs'.map (·.l) = [l] := by
      rw [hm]
      unfold Mac.turn
      rw [if_pos ⟨by decide, by omega⟩]
      rfl
    refine ⟨A', rs'.length, c', rs', ?_, hr, hm2, ?_, hc, hb⟩
    · unfold Mac.turnE
      rw [if_pos ⟨by decide, by omega⟩]
    · have := congrArg List.length hm2
      simpa using this)
  have HT2 : Hid (∀ (A3 : Option Addr) (c3 : Nat) (rs3 : List Mac.Key) (w3 : World), Below W.heap.size W w3 → Mac.Ring w3 A3 1 rs3 → 1 ≤ c3 → rs3.map (·.l) = [l] → Calls Tryd.prog 18 #[.slice A3 1 c3, .slice B m d] w3 fun e w' => ∃ A' N c' rs', e = .returned (.tuple #[.slice A' N c', .int .i64 0]) ∧ Mac.Ring w' A' N rs' ∧ l ∈ rs'.map (·.l) ∧ N = 2 ∧ Below w3.heap.size w3 w') := Lib.hid (fun A3 c3 rs3 w3 hb3 hr3 hc3 he3 => by
    refine (mturn_spec A3 1 c3 rs3 B m d lb w3 hr3 hc3 (by omega) (HRB.out.below hb3) HBB.out (by omega)).mono ?_
    rintro e w' ⟨A', c', rs', rfl, hr, hm, hc, hb⟩
    have hlk := hln.out
    have hlk2 := hlm.out
    have hrt : Mac.right [l] = true := by
      unfold Mac.right Mac.tooLong
      simp
      omega
    rw [he3] at hm ⊢
    have hm2 : rs'.map (·.l) = [lb, l] := by
      rw [hm]
      unfold Mac.turn
      rw [if_pos ⟨hrt, by omega⟩]
      rfl
    refine ⟨A', rs'.length, c', rs', ?_, hr, by rw [hm2]; simp, ?_, hb⟩
    · unfold Mac.turnE
      rw [if_pos ⟨hrt, by omega⟩]
    · have := congrArg List.length hm2
      simpa using this)
  go_wp2_with fail
  refine HT1.out.mono ?_
  rintro e w3 ⟨A3, N3, c3, rs3, rfl, hr3, hm3, hN3, hc3, hb3⟩
  have hb3' := bel_then hb2' hb3
  have HR3 := Lib.hid hr3
  have HM3 := Lib.hid hm3
  clear hr3 hm3 HT1
  cases later
  case' false =>
    clear HT2
    obtain ⟨w5, h⟩ : ∃ w5, w5 = w3 := ⟨_, rfl⟩
    subst h
    obtain ⟨A5, h⟩ : ∃ A5, A5 = A3 := ⟨_, rfl⟩
    subst h
    obtain ⟨N, h⟩ : ∃ N, N = N3 := ⟨_, rfl⟩
    subst h
    obtain ⟨c5, h⟩ : ∃ c5, c5 = c3 := ⟨_, rfl⟩
    subst h
    obtain ⟨rs5, h⟩ : ∃ rs5, rs5 = rs3 := ⟨_, rfl⟩
    subst h
    have hb5' := hb3'
    have HR5 := HR3
    have HL5 : Hid (l ∈ rs5.map (·.l)) := Lib.hid (by rw [HM3.out]; simp)
    have hN2 : N ≤ 2 := by omega
    clear HR3 HM3 hN3 hb3'
    go_wp2_with fail
  case' true =>
    subst hN3
    have HT3 := Lib.hid (HT2.out A3 c3 rs3 w3 hb3' HR3.out hc3 HM3.out)
    clear HT2
    go_wp2_with fail
    refine HT3.out.mono ?_
    rintro e w5 ⟨A5, N, c5, rs5, rfl, hr5, hl5, hN5, hb5⟩
    have hb5' := bel_then hb3' hb5
    have HR5 := Lib.hid hr5
    have HL5 := Lib.hid hl5
    have hN2 : N ≤ 2 := by omega
    clear hr5 hl5 hN5 HT3 HR3 HM3
    go_wp2_with fail
  all_goals
    refine (HS.out w5).mono ?_
    rintro e w6 ⟨rfl, hb6⟩
    have hb6' := bel_then hb5' hb6
    obtain ⟨e0, e1, e2, e3, e4⟩ := K5.out w6 hb6'
    obtain ⟨v0, v1⟩ := hv01.out
    have hls : Hid ((rs5.map (·.l)).length = N) := Lib.hid (by rw [List.length_map]; exact HR5.out.len)
    obtain ⟨k1, k2, k3, k4⟩ := HKN'.out (rs5.map (·.l)) (by rw [hls.out]; exact hN2) HL5.out
    have HC1 : Hid (∀ w1, Below W.heap.size W w1 → Mac.Ring w1 A5 N rs5 → Calls Tryd.prog 16 #[.slice A5 N c5, .agg #[.int .i64 t.proto, .int .u32 t.src, .int .i64 t.sport, .int .u32 t.dst, .int .i64 t.dport], .int .u32 sq, .int .i64 ep, .int .u32 v] w1 fun e' w' => e' = .returned (.tuple #[.int .i64 (Cook.sizeAt pm), .bool true]) ∧ Below w1.heap.size w1 w') := Lib.hid fun w1 hb hr => by
      have := HC.out w1 A5 N c5 rs5 ep v hb hr hN2 v0 v1
      rw [k1, k2] at this
      exact this
    have HC2 : Hid (∀ w1, Below W.heap.size W w1 → Mac.Ring w1 A5 N rs5 → Calls Tryd.prog 16 #[.slice A5 N c5, .agg #[.int .i64 t.proto, .int .u32 t.src, .int .i64 t.sport, .int .u32 t.dst, .int .i64 t.dport], .int .u32 sq, .int .i64 (ep + 1), .int .u32 v] w1 fun e' w' => e' = .returned (.tuple #[.int .i64 (Cook.sizeAt pm), .bool true]) ∧ Below w1.heap.size w1 w') := Lib.hid fun w1 hb hr => by
      have := HC.out w1 A5 N c5 rs5 (ep + 1) v hb hr hN2 v0 v1
      rw [k3, k4] at this
      exact this
    obtain ⟨b, hbB⟩ : ∃ b, Cook.checkB (rs5.map (·.l)) t sq ep ot = b := ⟨_, rfl⟩
    obtain ⟨nn, hnn⟩ : ∃ nn, Cook.checkN (rs5.map (·.l)) t sq ep ot = nn := ⟨_, rfl⟩
    have HC3 : Hid (∀ w1, Below W.heap.size W w1 → Mac.Ring w1 A5 N rs5 → Calls Tryd.prog 16 #[.slice A5 N c5, .agg #[.int .i64 t.proto, .int .u32 t.src, .int .i64 t.sport, .int .u32 t.dst, .int .i64 t.dport], .int .u32 sq, .int .i64 ep, .int .u32 ot] w1 fun e' w' => e' = .returned (.tuple #[.int .i64 nn, .bool b]) ∧ Below w1.heap.size w1 w') := Lib.hid fun w1 hb hr => by
      have := HC.out w1 A5 N c5 rs5 ep ot hb hr hN2 ho0 ho1
      rw [hbB, hnn] at this
      exact this
    have HNN : Hid (nn = if b = true then Cook.sizeAt (ot / 16777216 % 8).toNat else 0) := Lib.hid (by rw [← hnn, ← hbB]; rfl)
    have HF : Hid (b = true → ∃ (i d : Nat) (l : List Int), (rs5.map (·.l))[i]? = some l ∧ d < 2 ∧ 0 ≤ ep - d ∧ Cook.one l t sq (ep - d) (ot / 16777216 % 8) = ot) := Lib.hid fun h => Cook.known_of (hbB.trans h)
    clear HC k1 k2 k3 k4 hbB hnn HKN' HL5 hv01
    generalize Cook.sizeAt pm = sz at HC1 HC2
    have h1w : ep + 1 ≤ 2147483647 := by omega
    go_wp2_with fail
    refine (HC1.out w6 hb6' ((HR5.out.below hb6))).mono ?_
    rintro e w7 ⟨rfl, hb7⟩
    have hb7' := bel_then hb6' hb7
    have hb57 := bel_then hb6 hb7
    clear e0 e1 e2 e3 e4
    obtain ⟨e0, e1, e2, e3, e4⟩ := K5.out w7 hb7'
    go_wp2_with fail
    refine (HC2.out w7 hb7' (HR5.out.below hb57)).mono ?_
    rintro e w8 ⟨rfl, hb8⟩
    have hb8' := bel_then hb7' hb8
    have hb58 := bel_then hb57 hb8
    clear e0 e1 e2 e3 e4
    obtain ⟨e0, e1, e2, e3, e4⟩ := K5.out w8 hb8'
    go_wp2_with fail
    refine (HC3.out w8 hb8' (HR5.out.below hb58)).mono ?_
    rintro e w9 ⟨rfl, hb9⟩
    have hb9' := bel_then hb8' hb9
    have HR9 := Lib.hid (HR5.out.below (bel_then hb58 hb9))
    clear e0 e1 e2 e3 e4 HC1 HC2 HC3 HR5 hb6 hb7 hb8 hb9 hb57 hb58 HS
    cases b
    · obtain rfl : nn = 0 := by rw [HNN.out]; rfl
      have hbF := bel_then hbW hb9'
      clear HF HNN HTX K5 HR9 hb6' hb7' hb8'
      go_wp2_with fail
      go_ret
      exact ⟨rfl, hbF⟩
    obtain ⟨q, hq⟩ : ∃ q : Nat, q = (ot / 16777216 % 8).toNat := ⟨_, rfl⟩
    have hq7 : q ≤ 7 := by omega
    have HQ : Hid ((q : Int) = ot / 16777216 % 8) := Lib.hid (by omega)
    have HS2 : Hid (∀ w, Calls Tryd.prog 10 #[.int .i64 nn] w fun e w' => e = .returned (.tuple #[.int .i64 q, .int .i64 nn]) ∧ Below w.heap.size w w') := Lib.hid fun w => by
      have h := csize_spec nn w
      have e1 : Cook.place nn = q := by rw [HNN.out, if_pos rfl, hq]; exact Cook.size_name
      have e2 : Cook.sizeAt q = nn := by rw [HNN.out, if_pos rfl, hq]
      rw [e1, e2] at h
      exact h
    have HF' := Lib.hid (HF.out rfl)
    clear HF HNN hq
    go_wp2_with fail
    refine (HS2.out w9).mono ?_
    rintro e w10 ⟨rfl, hb10⟩
    have hb10' := bel_then hb9' hb10
    have HRX := Lib.hid (HR9.out.below hb10)
    clear HR9 HS2 hb10 hb9' hb8' hb7' hb6'
    obtain ⟨r, hr⟩ : ∃ r, ot % 16777216 = r := ⟨_, rfl⟩
    obtain ⟨s, hs⟩ : ∃ s, ot / 16777216 = s := ⟨_, rfl⟩
    have hAr : Go.bits .and .u32 ot 16777215 = r := by rw [← hr]; exact bits_low .u32 24 16777215 rfl rfl (by decide) _
    have HONE : Hid (∀ (l : List Int) (e : Int), Cook.one l t sq e (ot / 16777216 % 8) = ot ↔ Mac.bits l (Cook.text t sq e q) 24 = r ∧ e % 32 * 8 + q = s) := Lib.hid fun l e => by
      rw [HQ.out, ← hr, ← hs]
      exact Cook.one_iff l t sq e ot ho0
    have HF2 : Hid (∃ (i d : Nat) (k : Mac.Key), rs5[i]? = some k ∧ d < 2 ∧ 0 ≤ ep - d ∧ (Mac.bits k.l (Cook.text t sq (ep - d) q) 24 = r ∧ (ep - d) % 32 * 8 + q = s)) := Lib.hid (by
      obtain ⟨i, d, l', h1, h2, h3, h4⟩ := HF'.out
      rw [List.getElem?_map] at h1
      obtain ⟨k, hk, rfl⟩ := Option.map_eq_some_iff.1 h1
      exact ⟨i, d, k, hk, h2, h3, (HONE.out _ _).1 h4⟩)
    have hs0 : 0 ≤ s ∧ s ≤ 255 := by omega
    obtain ⟨hs0, hs1⟩ := hs0
    clear HF' HONE HQ hr
    go_wp2_with fail
    go_loopg [31] N (fun gg s31 wx => ∃ i : Nat, i + gg = N ∧ s31 = .int .i64 i ∧ Below w10.heap.size w10 wx ∧ Hid (∀ (j d : Nat) (k : Mac.Key), j < i → rs5[j]? = some k → d < 2 → 0 ≤ ep - d → ¬ (Mac.bits k.l (Cook.text t sq (ep - d) q) 24 = r ∧ (ep - d) % 32 * 8 + q = s)))
    case atStart => exact ⟨0, by omega, rfl, Below.refl _ _, Lib.hid fun j d k hj => absurd hj (by omega)⟩
    case round =>
      obtain ⟨i, hig, rfl, hbx, hall⟩ := hrel
      cases gk with
      | zero =>
        exfalso
        obtain ⟨j, d, k, h1, h2, h3, h4⟩ := HF2.out
        have := (List.getElem?_eq_some_iff.1 h1).1
        have := HRX.out.len
        exact hall.out j d k (by omega) h1 h2 h3 h4
      | succ g =>
        have hi : i < N := by omega
        have hiz : (i : Int) < (N : Int) := by omega
        go_wp2_with fail
        go_loopg [32] 2 (fun g2 s32 wy => ∃ d : Nat, d + g2 = 2 ∧ s32 = .int .i64 d ∧ Below w10.heap.size w10 wy ∧ Hid (∀ (j : Nat) (k : Mac.Key), j < d → rs5[i]? = some k → 0 ≤ ep - j → ¬ (Mac.bits k.l (Cook.text t sq (ep - j) q) 24 = r ∧ (ep - j) % 32 * 8 + q = s)))
        case atStart => exact ⟨0, by omega, rfl, hbx, Lib.hid fun j k hj => absurd hj (by omega)⟩
        case round =>
          obtain ⟨d, hdg, rfl, hby, hpre⟩ := hrel
          cases gk with
          | zero =>
            have HALL : Hid (∀ (j d : Nat) (k : Mac.Key), j < i + 1 → rs5[j]? = some k → d < 2 → 0 ≤ ep - d → ¬ (Mac.bits k.l (Cook.text t sq (ep - d) q) 24 = r ∧ (ep - d) % 32 * 8 + q = s)) := Lib.hid fun j d' k hj h1 h2 h3 => by
              rcases (show j = i ∨ j < i by omega) with rfl | hj
              · exact hpre.out d' k (by omega) h1 h3
              · exact hall.out j d' k hj h1 h2 h3
            have hdz : ¬ (d : Int) < 2 := by omega
            clear hall hpre HTX K5 HF2
            go_wp2_with fail
            go_roundg g
            case measure => omega
            case rel => exact ⟨i + 1, by omega, by go_num, hby, HALL⟩
          | succ g2 =>
            have hd2 : d < 2 := by omega
            have hdz : (d : Int) < 2 := by omega
            obtain ⟨b0, off, ⟨kA, kn, kc, kl⟩, hAe, hbs, hc, hmem, hk⟩ := (HRX.out.below hby).cell hi
            have hkok := (HRX.out.below hby).keys _ hmem
            simp only at hc
            have hbW10 := bel_then hb10' hby
            have hbF := bel_then hbW hbW10
            have HPP : Hid ((0 ≤ ep - d → ¬ (Mac.bits kl (Cook.text t sq (ep - d) q) 24 = r ∧ (ep - d) % 32 * 8 + q = s)) → ∀ (j : Nat) (k : Mac.Key), j < d + 1 → rs5[i]? = some k → 0 ≤ ep - j → ¬ (Mac.bits k.l (Cook.text t sq (ep - j) q) 24 = r ∧ (ep - j) % 32 * 8 + q = s)) := Lib.hid fun h j k hj h1 h3 => by
              rcases (show j = d ∨ j < d by omega) with rfl | hj
              · rw [hk.out] at h1
                injection h1 with h1
                rw [← h1]
                exact h h3
              · exact hpre.out j k hj h1 h3
            obtain ⟨x, hx⟩ : ∃ x, ep - (d : Int) = x := ⟨_, rfl⟩
            have HTX1 := Lib.hid (HTX.out x q)
            rw [hx] at HPP
            have HBT : Hid (∀ (w' : World) (A7 : Option Addr) (c7 : Nat), Below wr.heap.size wr w' → Rd w' 1 A7 22 (bs (Cook.text t sq x q)) → Calls Tryd.prog 19 #[.slice kA kn kc, .slice A7 22 c7, .int .i64 24] w' fun e w'' => e = .returned (.int .u32 (Mac.bits kl (Cook.text t sq x q) 24)) ∧ Below w'.heap.size w' w'') := Lib.hid fun w' A7 c7 hb hr =>
              rmbits_spec kA kn kc A7 22 c7 kl (Cook.text t sq x q) 24 w' ((HKW.out.below hbW10).below hb) (hkok.rd.below hb) hr hkok.by8 (HTB.out x q) (by have : kn ≤ 4294960000 := hkok.small; omega) (by omega)
            have hxl : ep ≤ x + d := by omega
            have hxu : x + d ≤ ep := by omega
            generalize Cook.text t sq x q = tx at HTX1 HBT HPP
            generalize Mac.bits kl tx 24 = bv at HBT HPP
            obtain ⟨y, hy⟩ : ∃ y, Int.tmod x 32 = y := ⟨_, rfl⟩
            have KF : Hid (∀ w' : World, Below wr.heap.size wr w' → (w'.cell? ⟨w.heap.size, 0, none⟩ = some (.int .i64 t.proto) ∧ w'.cell? ⟨w.heap.size, 1, none⟩ = some (.int .u32 t.src) ∧ w'.cell? ⟨w.heap.size, 2, none⟩ = some (.int .i64 t.sport) ∧ w'.cell? ⟨w.heap.size, 3, none⟩ = some (.int .u32 t.dst) ∧ w'.cell? ⟨w.heap.size, 4, none⟩ = some (.int .i64 t.dport)) ∧ w'.cell? ⟨b0, off + i, none⟩ = some (.slice kA kn kc)) := Lib.hid fun w' hb => ⟨K5.out w' (bel_then hbW10 hb), (hb.cell (p := ⟨b0, off + i, none⟩) hbs).trans hc⟩
            clear hkok hmem hk hpre hc hall HTX K5 HRX
            subst hAe
            by_cases hx0 : x < 0
            · have hx0' : decide (0 ≤ x) = false := by simp; omega
              have HP1 := Lib.hid (HPP.out (fun h => by omega))
              clear HTX1 HBT KF HPP
              go_wp2_with fail
              go_quiet (fail)
              go_wp2_with fail
              go_roundg g2
              case measure => omega
              case rel => exact ⟨d + 1, by omega, by go_num, bel_drN2 hby _, HP1⟩
            have hx0p : 0 ≤ x := by omega
            have w1 : IntKind.i64.wrap x = x := by rw [IntKind.wrap_i64]; omega
            have w1' : wrap64 x = x := by unfold wrap64; omega
            have HY : Hid (x % 32 = y) := Lib.hid (by rw [← hy, Int.tmod_eq_emod_of_nonneg hx0p])
            have hy0 : 0 ≤ y ∧ y ≤ 31 := by have := HY.out; omega
            obtain ⟨hy0, hy1⟩ := hy0
            have w2 : IntKind.i64.wrap (y * 8) = y * 8 := by rw [IntKind.wrap_i64]; omega
            have w2' : wrap64 (y * 8) = y * 8 := by unfold wrap64; omega
            have w3 : IntKind.i64.wrap (y * 8 + (q : Int)) = y * 8 + (q : Int) := by rw [IntKind.wrap_i64]; omega
            have w3' : wrap64 (y * 8 + (q : Int)) = y * 8 + (q : Int) := by unfold wrap64; omega
            have w4 : IntKind.u32.wrap (y * 8 + (q : Int)) = y * 8 + (q : Int) := by rw [IntKind.wrap_u32]; omega
            have w4' : (y * 8 + (q : Int)) % 4294967296 = y * 8 + (q : Int) := by omega
            have w5 : IntKind.i64.wrap s = s := by rw [IntKind.wrap_i64]; omega
            have w5' : IntKind.u32.wrap s = s := by rw [IntKind.wrap_u32]; omega
            by_cases hbr : bv = r
            · subst hbr
              by_cases hn : y * 8 + (q : Int) = s
              · clear HPP
                go_wp2_with fail
                go_region_held3 (fun w' => (w'.cell? ⟨w.heap.size, 0, none⟩ = some (.int .i64 t.proto) ∧ w'.cell? ⟨w.heap.size, 1, none⟩ = some (.int .u32 t.src) ∧ w'.cell? ⟨w.heap.size, 2, none⟩ = some (.int .i64 t.sport) ∧ w'.cell? ⟨w.heap.size, 3, none⟩ = some (.int .u32 t.dst) ∧ w'.cell? ⟨w.heap.size, 4, none⟩ = some (.int .i64 t.dport)) ∧ w'.cell? ⟨b0, off + i, none⟩ = some (.slice kA kn kc)) (exact KF.out _ (by repeat (first | with_reducible exact hbn | with_reducible exact Below.refl wr.heap.size wr | with_reducible refine bel_al2 ?_ _ | with_reducible refine bel_dr2 ?_ | with_reducible refine bel_drN2 ?_ _)))
                  (with_reducible first | (refine (HTX1.out _).mono ?_; rintro e w11 ⟨A11, c11, rfl, hr11, hb11⟩; have hbn : Below wr.heap.size wr w11 := bel_then (by repeat (first | with_reducible exact hbn | with_reducible exact Below.refl wr.heap.size wr | with_reducible refine bel_al2 ?_ _ | with_reducible refine bel_dr2 ?_ | with_reducible refine bel_drN2 ?_ _)) hb11) | (refine (HBT.out _ _ _ hbn hr11).mono ?_; rintro e w12 ⟨rfl, hb12⟩; have hbn : Below wr.heap.size wr w12 := bel_then hbn hb12))
                all_goals
                  go_wp2_with fail
                  go_ret
                  exact ⟨rfl, bel_then hbF hbn⟩
              · have hq2 : (y * 8 + (q : Int) == s) = false := by simp [hn]
                have HP1 := Lib.hid (HPP.out (fun _ h => hn (by rw [← HY.out]; exact h.2)))
                clear HPP
                go_wp2_with fail
                go_region_held3 (fun w' => (w'.cell? ⟨w.heap.size, 0, none⟩ = some (.int .i64 t.proto) ∧ w'.cell? ⟨w.heap.size, 1, none⟩ = some (.int .u32 t.src) ∧ w'.cell? ⟨w.heap.size, 2, none⟩ = some (.int .i64 t.sport) ∧ w'.cell? ⟨w.heap.size, 3, none⟩ = some (.int .u32 t.dst) ∧ w'.cell? ⟨w.heap.size, 4, none⟩ = some (.int .i64 t.dport)) ∧ w'.cell? ⟨b0, off + i, none⟩ = some (.slice kA kn kc)) (exact KF.out _ (by repeat (first | with_reducible exact hbn | with_reducible exact Below.refl wr.heap.size wr | with_reducible refine bel_al2 ?_ _ | with_reducible refine bel_dr2 ?_ | with_reducible refine bel_drN2 ?_ _)))
                  (with_reducible first | (refine (HTX1.out _).mono ?_; rintro e w11 ⟨A11, c11, rfl, hr11, hb11⟩; have hbn : Below wr.heap.size wr w11 := bel_then (by repeat (first | with_reducible exact hbn | with_reducible exact Below.refl wr.heap.size wr | with_reducible refine bel_al2 ?_ _ | with_reducible refine bel_dr2 ?_ | with_reducible refine bel_drN2 ?_ _)) hb11) | (refine (HBT.out _ _ _ hbn hr11).mono ?_; rintro e w12 ⟨rfl, hb12⟩; have hbn : Below wr.heap.size wr w12 := bel_then hbn hb12))
                all_goals
                  have hbz := bel_then hby hbn
                  go_wp2_with fail
                  go_roundg g2
                  case measure => omega
                  case rel => exact ⟨d + 1, by omega, by go_num, hbz, HP1⟩
            · have hq1 : (bv == r) = false := by simp [hbr]
              have HP1 := Lib.hid (HPP.out (fun _ h => hbr h.1))
              clear HPP
              go_wp2_with fail
              refine wp_region_held_drew (S := fun w' => (w'.cell? ⟨w.heap.size, 0, none⟩ = some (.int .i64 t.proto) ∧ w'.cell? ⟨w.heap.size, 1, none⟩ = some (.int .u32 t.src) ∧ w'.cell? ⟨w.heap.size, 2, none⟩ = some (.int .i64 t.sport) ∧ w'.cell? ⟨w.heap.size, 3, none⟩ = some (.int .u32 t.dst) ∧ w'.cell? ⟨w.heap.size, 4, none⟩ = some (.int .i64 t.dport)) ∧ w'.cell? ⟨b0, off + i, none⟩ = some (.slice kA kn kc)) (by kernel_rfl) ?_ (fun hHeld => ?_)
              · exact KF.out _ (by repeat (first | with_reducible exact hbn | with_reducible exact Below.refl wr.heap.size wr | with_reducible refine bel_al2 ?_ _ | with_reducible refine bel_dr2 ?_ | with_reducible refine bel_drN2 ?_ _))
              refine wpAnyH_takeD (i := 0) (some 144) (v := ?_) rfl rfl (by kernel_rfl) (by kernel_rfl) (by kernel_rfl) (fun _ _ _ h => h) (Or.inl ⟨by rfl, ?_⟩) (by assumption) ?_
              rotate_left
              · (intro w hSw; (try dsimp only at hSw); go_simp; try with_reducible rfl)
              try simp only [Act.put, List.setIfInBounds_toArray, List.set_cons_zero, List.set_cons_succ]
              refine wpAnyH_takeD (i := 1) (some 145) (v := ?_) rfl rfl (by kernel_rfl) (by kernel_rfl) (by kernel_rfl) (fun _ _ _ h => h) (Or.inl ⟨by rfl, ?_⟩) (by assumption) ?_
              rotate_left
              · (intro w hSw; (try dsimp only at hSw); go_simp; try with_reducible rfl)
              try simp only [Act.put, List.setIfInBounds_toArray, List.set_cons_zero, List.set_cons_succ]
              refine wpAnyH_takeD (i := 2) (some 146) (v := ?_) rfl rfl (by kernel_rfl) (by kernel_rfl) (by kernel_rfl) (fun _ _ _ h => h) (Or.inl ⟨by rfl, ?_⟩) (by assumption) ?_
              rotate_left
              · (intro w hSw; (try dsimp only at hSw); go_simp; try with_reducible rfl)
              try simp only [Act.put, List.setIfInBounds_toArray, List.set_cons_zero, List.set_cons_succ]
              refine wpAnyH_takeD (i := 3) (some 147) (v := ?_) rfl rfl (by kernel_rfl) (by kernel_rfl) (by kernel_rfl) (fun _ _ _ h => h) (Or.inl ⟨by rfl, ?_⟩) (by assumption) ?_
              rotate_left
              · (intro w hSw; (try dsimp only at hSw); go_simp; try with_reducible rfl)
              try simp only [Act.put, List.setIfInBounds_toArray, List.set_cons_zero, List.set_cons_succ]
              refine wpAnyH_takeD (i := 4) (some 148) (v := ?_) rfl rfl (by kernel_rfl) (by kernel_rfl) (by kernel_rfl) (fun _ _ _ h => h) (Or.inl ⟨by rfl, ?_⟩) (by assumption) ?_
              rotate_left
              · (intro w hSw; (try dsimp only at hSw); go_simp; try with_reducible rfl)
              try simp only [Act.put, List.setIfInBounds_toArray, List.set_cons_zero, List.set_cons_succ]
              refine wpAnyH_takeD (i := 5) (some 149) (v := ?_) rfl rfl (by kernel_rfl) (by kernel_rfl) (by kernel_rfl) (fun _ _ _ h => h) (Or.inl ⟨by rfl, ?_⟩) (by assumption) ?_
              rotate_left
              · (intro w hSw; (try dsimp only at hSw); go_simp; try with_reducible rfl)
              try simp only [Act.put, List.setIfInBounds_toArray, List.set_cons_zero, List.set_cons_succ]
              refine wpAnyH_takeD (i := 6) (some 150) (v := ?_) rfl rfl (by kernel_rfl) (by kernel_rfl) (by kernel_rfl) (fun _ _ _ h => h) (Or.inl ⟨by rfl, ?_⟩) (by assumption) ?_
              rotate_left
              · (intro w hSw; (try dsimp only at hSw); go_simp; try with_reducible rfl)
              try simp only [Act.put, List.setIfInBounds_toArray, List.set_cons_zero, List.set_cons_succ]
              refine wpAnyH_takeD (i := 7) (some 151) (v := ?_) rfl rfl (by kernel_rfl) (by kernel_rfl) (by kernel_rfl) (fun _ _ _ h => h) (Or.inl ⟨by rfl, ?_⟩) (by assumption) ?_
              rotate_left
              · (intro w hSw; (try dsimp only at hSw); go_simp; try with_reducible rfl)
              try simp only [Act.put, List.setIfInBounds_toArray, List.set_cons_zero, List.set_cons_succ]
              refine wpAnyH_takeD (i := 8) (some 152) (v := ?_) rfl rfl (by kernel_rfl) (by kernel_rfl) (by kernel_rfl) (fun _ _ _ h => h) (Or.inl ⟨by rfl, ?_⟩) (by assumption) ?_
              rotate_left
              · (intro w hSw; (try dsimp only at hSw); go_simp; try with_reducible rfl)
              try simp only [Act.put, List.setIfInBounds_toArray, List.set_cons_zero, List.set_cons_succ]
              refine wpAnyH_takeD (i := 9) (some 153) (v := ?_) rfl rfl (by kernel_rfl) (by kernel_rfl) (by kernel_rfl) (fun _ _ _ h => h) (Or.inl ⟨by rfl, ?_⟩) (by assumption) ?_
              rotate_left
              · (intro w hSw; (try dsimp only at hSw); go_simp; try with_reducible rfl)
              try simp only [Act.put, List.setIfInBounds_toArray, List.set_cons_zero, List.set_cons_succ]
              refine wpAnyH_takeD (i := 10) (some 154) (v := ?_) rfl rfl (by kernel_rfl) (by kernel_rfl) (by kernel_rfl) (fun _ _ _ h => h) (Or.inl ⟨by rfl, ?_⟩) (by assumption) ?_
              rotate_left
              · (intro w hSw; (try dsimp only at hSw); go_simp; try with_reducible rfl)
              try simp only [Act.put, List.setIfInBounds_toArray, List.set_cons_zero, List.set_cons_succ]
              refine wpAnyH_takeD (i := 11) (some 155) (v := ?_) rfl rfl (by kernel_rfl) (by kernel_rfl) (by kernel_rfl) (fun _ _ _ h => h) (Or.inl ⟨by rfl, ?_⟩) (by assumption) ?_
              rotate_left
              · (intro w hSw; (try dsimp only at hSw); go_simp; try with_reducible rfl)
              try simp only [Act.put, List.setIfInBounds_toArray, List.set_cons_zero, List.set_cons_succ]
              refine wpAnyH_takeD (i := 12) (some 156) (v := ?_) rfl rfl (by kernel_rfl) (by kernel_rfl) (by kernel_rfl) (fun _ _ _ h => h) (Or.inl ⟨by rfl, ?_⟩) (by assumption) ?_
              rotate_left
              · (intro w hSw; (try dsimp only at hSw); go_simp; try with_reducible rfl)
              try simp only [Act.put, List.setIfInBounds_toArray, List.set_cons_zero, List.set_cons_succ]
              refine wpAnyH_takeD (i := 13) (some 157) (v := ?_) rfl rfl (by kernel_rfl) (by kernel_rfl) (by kernel_rfl) (fun _ _ _ h => h) (Or.inl ⟨by rfl, ?_⟩) (by assumption) ?_
              rotate_left
              · (intro w hSw; (try dsimp only at hSw); go_simp; try with_reducible rfl)
              try simp only [Act.put, List.setIfInBounds_toArray, List.set_cons_zero, List.set_cons_succ]
              refine wpAnyH_takeD (i := 14) (some 158) (v := ?_) rfl rfl (by kernel_rfl) (by kernel_rfl) (by kernel_rfl) (fun _ _ _ h => h) (Or.inl ⟨by rfl, ?_⟩) (by assumption) ?_
              rotate_left
              · (intro w hSw; (try dsimp only at hSw); go_simp; try with_reducible rfl)
              try simp only [Act.put, List.setIfInBounds_toArray, List.set_cons_zero, List.set_cons_succ]
              refine wpAnyH_takeD (i := 17) (some 161) (v := ?_) rfl rfl (by kernel_rfl) (by kernel_rfl) (by kernel_rfl) (fun _ _ _ h => h) (Or.inl ⟨by rfl, ?_⟩) (by assumption) ?_
              rotate_left
              · (intro w hSw; (try dsimp only at hSw); go_simp; try with_reducible rfl)
              try simp only [Act.put, List.setIfInBounds_toArray, List.set_cons_zero, List.set_cons_succ]
              refine wpAnyH_takeD (i := 18) (some 162) (v := ?_) rfl rfl (by kernel_rfl) (by kernel_rfl) (by kernel_rfl) (fun _ _ _ h => h) (Or.inl ⟨by rfl, ?_⟩) (by assumption) ?_
              rotate_left
              · (intro w hSw; (try dsimp only at hSw); go_simp; try with_reducible rfl)
              try simp only [Act.put, List.setIfInBounds_toArray, List.set_cons_zero, List.set_cons_succ]
              refine wpAnyH_ready (rs := [15]) (by kernel_rfl) (by simp) ?_
              refine AllReadyH.cons (o := _) rfl (fun K hK => ?_) AllReadyH.nil
              go_simp
              refine (HTX1.out _).mono ?_
              rintro e w11 ⟨A11, c11, rfl, hr11, hb11⟩
              have hbn : Below wr.heap.size wr w11 := bel_then (by repeat (first | with_reducible exact hbn | with_reducible exact Below.refl wr.heap.size wr | with_reducible refine bel_al2 ?_ _ | with_reducible refine bel_dr2 ?_ | with_reducible refine bel_drN2 ?_ _)) hb11
              refine hK.out _ _ (KF.out _ hbn) (fun hHeld => ?_)
              clear hK K
              try simp only [Act.put, List.setIfInBounds_toArray, List.set_cons_zero, List.set_cons_succ]
              refine wpAnyH_ready (rs := [16]) (by kernel_rfl) (by simp) ?_
              refine AllReadyH.cons (o := _) rfl (fun K hK => ?_) AllReadyH.nil
              go_simp
              refine (HBT.out _ _ _ hbn hr11).mono ?_
              rintro e w12 ⟨rfl, hb12⟩
              have hbn : Below wr.heap.size wr w12 := bel_then hbn hb12
              refine hK.out _ _ (KF.out _ hbn) (fun hHeld => ?_)
              clear hK K
              try simp only [Act.put, List.setIfInBounds_toArray, List.set_cons_zero, List.set_cons_succ]
              refine wpAnyH_takeD (i := 19) (some 163) (v := ?_) rfl rfl (by kernel_rfl) (by kernel_rfl) (by kernel_rfl) (fun _ _ _ h => h) (Or.inl ⟨by rfl, ?_⟩) (by assumption) ?_
              rotate_left
              · (intro w hSw; (try dsimp only at hSw); go_simp; try with_reducible rfl)
              try simp only [Act.put, List.setIfInBounds_toArray, List.set_cons_zero, List.set_cons_succ]
              refine wpAnyH_takeD (i := 20) (some 164) (v := ?_) rfl rfl (by kernel_rfl) (by kernel_rfl) (by kernel_rfl) (fun _ _ _ h => h) (Or.inl ⟨by rfl, ?_⟩) (by assumption) ?_
              rotate_left
              · (intro w hSw; (try dsimp only at hSw); go_simp; try with_reducible rfl)
              try simp only [Act.put, List.setIfInBounds_toArray, List.set_cons_zero, List.set_cons_succ]
              refine wpAnyH_takeD (i := 21) (some 165) (v := ?_) rfl rfl (by kernel_rfl) (by kernel_rfl) (by kernel_rfl) (fun _ _ _ h => h) (Or.inl ⟨by rfl, ?_⟩) (by assumption) ?_
              rotate_left
              · (intro w hSw; (try dsimp only at hSw); go_simp; try with_reducible rfl)
              try simp only [Act.put, List.setIfInBounds_toArray, List.set_cons_zero, List.set_cons_succ]
              refine wpAnyH_takeD (i := 22) (some 166) (v := undef) rfl rfl (by kernel_rfl) (by kernel_rfl) (by kernel_rfl) (fun _ _ _ h => h) (Or.inr ⟨by rfl, rfl⟩) (by assumption) ?_
              try simp only [Act.put, List.setIfInBounds_toArray, List.set_cons_zero, List.set_cons_succ]
              refine wpAnyH_takeD (i := 23) (some 167) (v := undef) rfl rfl (by kernel_rfl) (by kernel_rfl) (by kernel_rfl) (fun _ _ _ h => h) (Or.inr ⟨by rfl, rfl⟩) (by assumption) ?_
              try simp only [Act.put, List.setIfInBounds_toArray, List.set_cons_zero, List.set_cons_succ]
              refine wpAnyH_takeD (i := 24) (some 168) (v := undef) rfl rfl (by kernel_rfl) (by kernel_rfl) (by kernel_rfl) (fun _ _ _ h => h) (Or.inr ⟨by rfl, rfl⟩) (by assumption) ?_
              try simp only [Act.put, List.setIfInBounds_toArray, List.set_cons_zero, List.set_cons_succ]
              refine wpAnyH_takeD (i := 25) (some 169) (v := undef) rfl rfl (by kernel_rfl) (by kernel_rfl) (by kernel_rfl) (fun _ _ _ h => h) (Or.inr ⟨by rfl, rfl⟩) (by assumption) ?_
              try simp only [Act.put, List.setIfInBounds_toArray, List.set_cons_zero, List.set_cons_succ]
              refine wpAnyH_takeD (i := 26) (some 170) (v := undef) rfl rfl (by kernel_rfl) (by kernel_rfl) (by kernel_rfl) (fun _ _ _ h => h) (Or.inr ⟨by rfl, rfl⟩) (by assumption) ?_
              try simp only [Act.put, List.setIfInBounds_toArray, List.set_cons_zero, List.set_cons_succ]
              refine wpAnyH_takeD (i := 27) (some 171) (v := undef) rfl rfl (by kernel_rfl) (by kernel_rfl) (by kernel_rfl) (fun _ _ _ h => h) (Or.inr ⟨by rfl, rfl⟩) (by assumption) ?_
              try simp only [Act.put, List.setIfInBounds_toArray, List.set_cons_zero, List.set_cons_succ]
              refine wpAnyH_takeD (i := 28) (some 172) (v := undef) rfl rfl (by kernel_rfl) (by kernel_rfl) (by kernel_rfl) (fun _ _ _ h => h) (Or.inr ⟨by rfl, rfl⟩) (by assumption) ?_
              try simp only [Act.put, List.setIfInBounds_toArray, List.set_cons_zero, List.set_cons_succ]
              refine wpAnyH_takeD (i := 29) (some 173) (v := undef) rfl rfl (by kernel_rfl) (by kernel_rfl) (by kernel_rfl) (fun _ _ _ h => h) (Or.inr ⟨by rfl, rfl⟩) (by assumption) ?_
              try simp only [Act.put, List.setIfInBounds_toArray, List.set_cons_zero, List.set_cons_succ]
              refine wpAnyH_takeD (i := 30) (some 174) (v := undef) rfl rfl (by kernel_rfl) (by kernel_rfl) (by kernel_rfl) (fun _ _ _ h => h) (Or.inr ⟨by rfl, rfl⟩) (by assumption) ?_
              try simp only [Act.put, List.setIfInBounds_toArray, List.set_cons_zero, List.set_cons_succ]
              refine wpAnyH_takeD (i := 31) (some 175) (v := undef) rfl rfl (by kernel_rfl) (by kernel_rfl) (by kernel_rfl) (fun _ _ _ h => h) (Or.inr ⟨by rfl, rfl⟩) (by assumption) ?_
              try simp only [Act.put, List.setIfInBounds_toArray, List.set_cons_zero, List.set_cons_succ]
              refine wpAnyH_takeD (i := 32) (some 176) (v := undef) rfl rfl (by kernel_rfl) (by kernel_rfl) (by kernel_rfl) (fun _ _ _ h => h) (Or.inr ⟨by rfl, rfl⟩) (by assumption) ?_
              try simp only [Act.put, List.setIfInBounds_toArray, List.set_cons_zero, List.set_cons_succ]
              refine wpAnyH_takeD (i := 33) (some 177) (v := ?_) rfl rfl (by kernel_rfl) (by kernel_rfl) (by kernel_rfl) (fun _ _ _ h => h) (Or.inl ⟨by rfl, ?_⟩) (by assumption) ?_
              rotate_left
              · (intro w hSw; (try dsimp only at hSw); go_simp; try with_reducible rfl)
              try simp only [Act.put, List.setIfInBounds_toArray, List.set_cons_zero, List.set_cons_succ]
              refine wpAnyH_done (by kernel_rfl) ?_ _
              have hbz := bel_then hby hbn
              go_wp2_with fail
              go_roundg g2
              case measure => omega
              case rel => exact ⟨d + 1, by omega, by go_num, hbz, HP1⟩
end Go.Proofs.YtdnboohhplnnhaaDoor
