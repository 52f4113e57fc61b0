/- The walks of the mac law's short, of the reference's Turn, Check and Same. -/
import Derived.Test.YtjikegapljdddaaDoorMacTurn
import Derived.Test.YtjikegapljdddaaDoorMacRef2
import Derived.Laws.BytesArg
namespace Go.Proofs.YtjikegapljdddaaDoor
open Go.RowKit
set_option linter.unusedVariables false
namespace Mac
/-- a ring in memory, its keys as long as they are -/
structure Ring0 (w : World) (A : Option Addr) (n : Nat) (rs : List Key) : Prop where
  len : rs.length = n
  rd : Rd w 1 A n (rs.map Key.val)
  keys : ∀ k ∈ rs, Rd w 1 k.A k.n (bs k.l) ∧ isB k.l ∧ k.n ≤ 9223372036854775807
theorem Ring0.below {w w' : World} {A : Option Addr} {n : Nat} {rs : List Key} (h : Ring0 w A n rs) (hb : Below w.heap.size w w') : Ring0 w' A n rs := ⟨h.len, h.rd.below hb, fun k hk => ⟨(h.keys k hk).1.below hb, (h.keys k hk).2⟩⟩
theorem Ring0.ring {w : World} {A : Option Addr} {n : Nat} {rs : List Key} (h : Ring0 w A n rs) (hs : ∀ k ∈ rs, k.n ≤ 300) : Ring w A n rs := ⟨h.len, h.rd, fun k hk => ⟨(h.keys k hk).1, (h.keys k hk).2.1, by have := hs k hk; omega⟩⟩
theorem Ring0.cell {w : World} {A : Option Addr} {n : Nat} {rs : List Key} (h : Ring0 w A n rs) {j : Nat} (hj : j < n) : ∃ b off, ∃ k : Key, A = some ⟨b, off, Option.none⟩ ∧ b < w.heap.size ∧ w.cell? ⟨b, off + j, Option.none⟩ = some (.slice k.A k.n k.c) ∧ k ∈ rs ∧ Hid (rs[j]? = some k) := by
  have hl := h.len
  obtain ⟨b, off, e, hb, hc⟩ := h.rd.2 (by omega)
  refine ⟨b, off, rs[j], e, hb, hc j _ ?_, List.getElem_mem (by omega), Lib.hid (List.getElem?_eq_getElem (by omega))⟩
  rw [List.getElem?_map, List.getElem?_eq_getElem (by omega)]
  rfl
end Mac
set_option maxHeartbeats 1000000 in
theorem mshort_spec (A : Option Addr) (n c : Nat) (rs : List Mac.Key) (w : World) (hr : Mac.Ring0 w A n rs) (hn : n ≤ 9223372036854775807) :
    Calls Tryd.prog 20 #[.slice A n c] w fun e w' => ∃ b : Bool, e = .returned (.bool b) ∧ (b = true → n ≤ 4 ∧ ∀ k ∈ rs, k.n ≤ 300) ∧ w = w' := by
  have HR := Lib.hid hr
  have HL := Lib.hid hr.len
  clear hr
  by_cases h4 : 4 < n
  · have hz : (4 : Int) < (n : Int) := by omega
    go_enter Tryd.func20, Tryd.ntmps20
    go_wp2_with fail
    go_ret
    exact ⟨false, rfl, fun h => by (cases h), rfl⟩
  have hz : ¬ (4 : Int) < (n : Int) := by omega
  go_enter Tryd.func20, Tryd.ntmps20
  go_wp2_with fail
  go_loopg [3] n (fun g s3 wx => ∃ i : Nat, i + g = n ∧ s3 = .int .i64 i ∧ Hid (∀ j k, j < i → rs[j]? = some k → k.n ≤ 300) ∧ wx = w)
  case atStart => exact ⟨0, by omega, rfl, Lib.hid (fun j k hj => absurd hj (Nat.not_lt_zero _)), rfl⟩
  case round =>
    obtain ⟨i, hig, rfl, hq, rfl⟩ := hrel
    cases gk with
    | zero =>
      obtain rfl : i = n := by omega
      go_wp2_with fail
      go_ret
      refine ⟨true, rfl, fun _ => ⟨by omega, fun k hk => ?_⟩, rfl⟩
      obtain ⟨j, hj⟩ := List.getElem?_of_mem hk
      exact hq.out j k (by have := (List.getElem?_eq_some_iff.1 hj).1; have := HL.out; omega) hj
    | succ g =>
      have hi : i < n := by omega
      have hiz : (i : Int) < (n : Int) := by omega
      obtain ⟨b0, off, k, rfl, hbs, hc, hmem, hk⟩ := HR.out.cell hi
      have hkb := (HR.out.keys k hmem).2.2
      clear hmem
      by_cases h3 : 300 < k.n
      · have h3z : (300 : Int) < (k.n : Int) := by omega
        go_wp2_with fail
        go_ret
        exact ⟨false, rfl, fun h => by (cases h), rfl⟩
      · have h3z : ¬ (300 : Int) < (k.n : Int) := by omega
        go_wp2_with fail
        go_roundg g
        case measure => omega
        case rel =>
          refine ⟨i + 1, by omega, by go_num, Lib.hid fun j k' hj hk' => ?_, rfl⟩
          by_cases e : j = i
          · subst e
            rw [hk.out] at hk'
            injection hk' with hk'
            subst hk'
            omega
          · exact hq.out j k' (by omega) hk'
theorem conv_rd (A : Option Addr) (n c : Nat) (l : List Int) (w : World) (hR : Rd w 1 A n (bs l)) : (convert 24 9 (.slice A n c)).run Tryd.prog w = .ok (.string (strOfNums l)) w := by
  rcases Nat.eq_zero_or_pos n with h | h
  · subst h
    have hl : l = [] := List.eq_nil_of_length_eq_zero hR.blen
    subst hl
    rw [run_convert_bytes_string w 24 9 5 _ 0 c Tryd.underlying24 Tryd.underlying5 Tryd.underlying9]
    cases A <;> simp [Conv.bytesToString, loadCells, strOfNums]
    all_goals rfl
  · obtain ⟨b, off, e, hb, hc⟩ := hR.2 h
    subst e
    exact run_convert_bytes_arg w 24 5 Tryd.underlying24 Tryd.underlying5 b off n c l hR.blen (fun i hi => by
      have hl := hR.blen
      have := hc i _ (bs_get l i (by omega))
      rw [this]
      simp [show i < l.length by omega]) 9 Tryd.underlying9
set_option maxHeartbeats 2000000 in
theorem msame_spec (A : Option Addr) (n c : Nat) (rs : List Mac.Key) (B : Option Addr) (d : Nat) (qs : List Mac.Key) (w : World) (hr : Mac.Ring w A n rs) (hq : Mac.Ring w B n qs) (he : rs.map (·.l) = qs.map (·.l)) (hn : n ≤ 9223372036854775807) :
    Calls Tryd.prog 25 #[.slice A n c, .slice B n d] w fun e w' => e = .returned (.bool true) ∧ ∃ q, w' = w.drewN q := by
  have HR := Lib.hid hr
  have HQ := Lib.hid hq
  have HE := Lib.hid he
  clear hr hq he
  go_enter Tryd.func25, Tryd.ntmps25
  go_wp2_with fail
  go_loopg [5] n (fun g s5 wx => ∃ i q : Nat, i + g = n ∧ s5 = .int .i64 i ∧ wx = w.drewN q)
  case atStart => exact ⟨0, 0, by omega, rfl, rfl⟩
  case round =>
    obtain ⟨i, q, hig, rfl, rfl⟩ := hrel
    cases gk with
    | zero =>
      obtain rfl : i = n := by omega
      go_wp2_with fail
      go_ret
      exact ⟨rfl, q, rfl⟩
    | succ g =>
      have hi : i < n := by omega
      have hiz : (i : Int) < (n : Int) := by omega
      obtain ⟨b0, off, k, rfl, hbs, hc, hmem, hk⟩ := HR.out.cell hi
      obtain ⟨b1, off1, k', rfl, hbs1, hc1, hmem1, hk1⟩ := HQ.out.cell hi
      have hl : k.l = k'.l := by
        have h := congrArg (fun x : List (List Int) => x[i]?) HE.out
        simp only [List.getElem?_map, hk.out, hk1.out, Option.map_some, Option.some.injEq] at h
        exact h
      have cv := fun q' => conv_rd k.A k.n k.c k.l (w.drewN q') ((HR.out.keys k hmem).rd.drewN q')
      have cv1 := fun q' => conv_rd k'.A k'.n k'.c k'.l (w.drewN q') ((HQ.out.keys k' hmem1).rd.drewN q')
      rw [← hl] at cv1
      generalize strOfNums k.l = st at cv cv1
      obtain ⟨KA, kn, kc, kl⟩ := k
      obtain ⟨QA, qn, qc, ql⟩ := k'
      simp only at hc hc1 cv cv1
      clear hl hmem hmem1 hk hk1
      go_wp2_with fail
      go_quiet (fail)
      go_wp2_with fail
      go_roundg g
      case measure => omega
      case rel => exact ⟨i + 1, _, by omega, by go_num, rfl⟩
set_option maxHeartbeats 2000000 in
theorem rmcheck_spec (A : Option Addr) (n c : Nat) (rs : List Mac.Key) (B : Option Addr) (m d : Nat) (b : List Int) (nn want : Int) (w : World) (hT : TabK w) (hr : Mac.Ring w A n rs) (hbig : n ≤ 9223372036854775807) (hB : Rd w 1 B m (bs b)) (hb8 : isB b) (hm : m ≤ 4294960000) :
    Calls Tryd.prog 24 #[.slice A n c, .slice B m d, .int .i64 nn, .int .u32 want] w fun e w' => e = .returned (.tuple #[.int .i64 (max (Mac.at_ (rs.map (·.l)) b nn want) 0), .bool (decide (0 ≤ Mac.at_ (rs.map (·.l)) b nn want))]) ∧ Below w.heap.size w w' := by
  have hl := hr.len
  have HAT : Hid (Mac.at_ (rs.map (·.l)) b nn want = if 2 < n ∨ nn < 1 ∨ 32 < nn then -1 else Mac.idx (fun k : Mac.Key => Mac.bits k.l b nn == want) rs) := Lib.hid (by
    unfold Mac.at_
    rw [List.length_map, hl, ← Mac.idx_map (fun k : Mac.Key => k.l) (fun l => Mac.bits l b nn == want) rs])
  obtain ⟨at0, hat0⟩ : ∃ a, a = Mac.at_ (rs.map (·.l)) b nn want := ⟨_, rfl⟩
  rw [← hat0] at HAT ⊢
  have HR := Lib.hid hr
  have HT := Lib.hid hT
  have HB := Lib.hid (And.intro hB hb8)
  have HL := Lib.hid hl
  clear hat0 hr hT hB hb8 hl
  by_cases hbad : 2 < n ∨ nn < 1 ∨ 32 < nn
  · have ha : at0 = -1 := by rw [HAT.out, if_pos hbad]
    subst ha
    rcases Nat.eq_zero_or_pos n with h0 | h0
    · subst h0
      go_enter Tryd.func24, Tryd.ntmps24
      go_wp2_with fail
      refine wp_loop_rounds 1 ?_
      rw [rounds_succ]
      go_wp2_with fail
      go_ret2
      exact ⟨rfl, Below.refl _ _⟩
    · have h0z : (0 : Int) < (n : Int) := by omega
      rcases (show (2 : Int) < (n : Int) ∨ (¬ (2 : Int) < (n : Int) ∧ nn < 1) ∨ (¬ (2 : Int) < (n : Int) ∧ ¬ nn < 1 ∧ 32 < nn) by omega) with h1 | ⟨h1, h2⟩ | ⟨h1, h2, h3⟩
      all_goals
        clear hbad
        go_enter Tryd.func24, Tryd.ntmps24
        go_wp2_with fail
        refine wp_loop_rounds 1 ?_
        rw [rounds_succ]
        go_wp2_with fail
        go_ret2
        exact ⟨rfl, Below.refl _ _⟩
  have ha : at0 = Mac.idx (fun k : Mac.Key => Mac.bits k.l b nn == want) rs := by rw [HAT.out, if_neg hbad]
  have HIX := Lib.hid ha
  have hn2 : ¬ (2 : Int) < (n : Int) := by omega
  have hnn1 : 1 ≤ nn := by omega
  have hnn2 : nn ≤ 32 := by omega
  clear HAT hbad ha
  go_enter Tryd.func24, Tryd.ntmps24
  go_wp2_with fail
  go_loopg [10] n (fun g s10 wx => ∃ i : Nat, i + g = n ∧ s10 = .int .i64 i ∧ Hid (∀ j k, j < i → rs[j]? = some k → (Mac.bits k.l b nn == want) = false) ∧ Below w.heap.size w wx)
  case atStart => exact ⟨0, by omega, rfl, Lib.hid (fun j k hj => absurd hj (Nat.not_lt_zero _)), Below.refl _ _⟩
  case round =>
    obtain ⟨i, hig, rfl, hq, hbx⟩ := hrel
    cases gk with
    | zero =>
      obtain rfl : i = n := by omega
      have hv : at0 = -1 := by rw [HIX.out]; exact Mac.idx_miss (fun k : Mac.Key => Mac.bits k.l b nn == want) rs fun j x hx => hq.out j x (by have := (List.getElem?_eq_some_iff.1 hx).1; have := HL.out; omega) hx
      subst hv
      go_wp2_with fail
      go_ret2
      exact ⟨rfl, hbx⟩
    | succ g =>
      have hi : i < n := by omega
      have hiz : (i : Int) < (n : Int) := by omega
      obtain ⟨b0, off, k, hAe, hbs, hc, hmem, hk⟩ := (HR.out.below hbx).cell hi
      have hkok := (HR.out.below hbx).keys k hmem
      have HCC := Lib.hid (rmbits_spec k.A k.n k.c B m d k.l b nn wr (HT.out.below hbx) hkok.rd (HB.out.1.below hbx) hkok.by8 HB.out.2 (by have := hkok.small; omega) hm)
      obtain ⟨sq, hsq⟩ : ∃ s, (Mac.bits k.l b nn == want) = s := ⟨_, rfl⟩
      have HSQ := Lib.hid hsq
      generalize hv : Mac.bits k.l b nn = v at HCC hsq
      clear hkok hmem hv
      subst hAe
      cases sq with
      | true =>
        have hat : at0 = (i : Int) := by
          rw [HIX.out]
          exact Mac.idx_hit (fun k : Mac.Key => Mac.bits k.l b nn == want) rs i k hk.out HSQ.out (fun j y hj hy => hq.out j y hj hy)
        clear hk HSQ HIX
        subst hat
        go_wp2_with fail
        refine HCC.out.mono ?_
        rintro e w2 ⟨rfl, hb2⟩
        have hbF := bel_then hbx hb2
        clear HCC hb2
        go_wp2_with fail
        go_ret2
        refine ⟨?_, hbF⟩
        have e1 : max (i : Int) 0 = (i : Int) := by omega
        rw [e1]
        simp
      | false =>
        go_wp2_with fail
        refine HCC.out.mono ?_
        rintro e w2 ⟨rfl, hb2⟩
        have hbF := bel_then hbx hb2
        clear HCC hb2
        go_wp2_with fail
        go_roundg g
        case measure => omega
        case rel =>
          refine ⟨i + 1, by omega, by go_num, Lib.hid fun j y hj hy => ?_, hbF⟩
          by_cases e : j = i
          · subst e
            rw [hk.out] at hy
            injection hy with hy
            subst hy
            exact HSQ.out
          · exact hq.out j y (by omega) hy
end Go.Proofs.YtjikegapljdddaaDoor
