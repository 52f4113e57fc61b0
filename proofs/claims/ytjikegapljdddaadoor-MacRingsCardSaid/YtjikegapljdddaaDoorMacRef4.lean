/- The walk of the reference's Turn. -/
import Derived.Test.YtjikegapljdddaaDoorMacRef3
namespace Go.Proofs.YtjikegapljdddaaDoor
open Go.RowKit
set_option linter.unusedVariables false
theorem own_cell1 (w : World) (e : TypeId) (x : Value) : (w.alloc (.cells #[x] e)).ownsRow w.heap.size e 1 (.slice (some ⟨w.heap.size, 0, none⟩) 1 1) 1 [x] :=
  ⟨rfl, .inr ⟨w.heap.size, 1, #[x], rfl, Nat.le_refl _, heap_alloc_new w _, Nat.le_refl _, by unfold maxLen; omega, rfl, rfl⟩⟩
theorem Mac.bad_eq (ls : List (List Int)) (key : List Int) (n m : Nat) (hn : ls.length = n) (hm : key.length = m) :
    (Mac.right ls = true ∧ key.length ≤ 128) ↔ (decide (2 < n) || decide (128 < m) || ls.any Mac.tooLong) = false := by
  unfold Mac.right
  rw [hn, hm]
  cases h : ls.any Mac.tooLong <;> simp <;> omega
theorem rd_one_at (w : World) (e : TypeId) (v : Value) (g : Nat) (hg : g = w.heap.size) : Rd (w.alloc (.cells #[v] e)) 1 (some ⟨g, 0, none⟩) 1 [v] := by
  subst hg
  exact rd_one w e v
def RTurn (w : World) (te : Int) (L : List (List Int)) (e : Ending) (w' : World) : Prop :=
  ∃ A' c' N rs', e = .returned (.tuple #[.slice A' N c', .int .i64 te]) ∧ Mac.Ring w' A' N rs' ∧ rs'.map (·.l) = L ∧ Below w.heap.size w w'
set_option maxHeartbeats 4000000 in
theorem rmturn_spec (A : Option Addr) (n c : Nat) (rs : List Mac.Key) (B : Option Addr) (m d : Nat) (key : List Int) (w : World) (hr : Mac.Ring w A n rs) (hnc : n ≤ c) (hbig : n ≤ 4294960000) (hB : Rd w 1 B m (bs key)) (hk8 : isB key) (hm : m ≤ 4294960000) :
    Calls Tryd.prog 22 #[.slice A n c, .slice B m d] w (RTurn w (Mac.turnE (rs.map (·.l)) key) (Mac.turn (rs.map (·.l)) key)) := by
  have hl := hr.len
  have hkl := hB.blen
  have HR := Lib.hid hr
  have HL := Lib.hid hl
  have HKEY : Hid (Mac.Key.ok ⟨B, m, d, key⟩ w) := Lib.hid ⟨hB, hk8, hm⟩
  have HBAD := Lib.hid (Mac.bad_eq (rs.map (·.l)) key n m (by rw [List.length_map]; exact hl) hkl)
  have HTE : Hid (Mac.turnE (rs.map (·.l)) key = if Mac.right (rs.map (·.l)) = true ∧ key.length ≤ 128 then 0 else 12) := Lib.hid rfl
  have HTU : Hid (Mac.turn (rs.map (·.l)) key = if Mac.right (rs.map (·.l)) = true ∧ key.length ≤ 128 then key :: (rs.map (·.l)).take 1 else rs.map (·.l)) := Lib.hid rfl
  obtain ⟨te, hte⟩ : ∃ te, te = Mac.turnE (rs.map (·.l)) key := ⟨_, rfl⟩
  rw [← hte] at HTE ⊢
  obtain ⟨b0, hb0⟩ : ∃ b0, (decide (2 < n) || decide (128 < m)) = b0 := ⟨_, rfl⟩
  rw [hb0] at HBAD
  have HB0 := Lib.hid hb0
  clear hte hr hB hk8 hkl hb0 hl
  have hst : ∀ bb : Bool, bb = b0 → ((2 < n ∧ bb = true) ∨ (¬ 2 < n ∧ 128 < m ∧ bb = true) ∨ (¬ 2 < n ∧ ¬ 128 < m ∧ bb = false)) := by
    intro bb h
    rw [h, ← HB0.out]
    by_cases h1 : 2 < n
    · exact Or.inl ⟨h1, by simp [h1]⟩
    · by_cases h2 : 128 < m
      · exact Or.inr (Or.inl ⟨h1, h2, by simp [h2]⟩)
      · exact Or.inr (Or.inr ⟨h1, h2, by simp [h1, h2]⟩)
  rcases hst b0 rfl with ⟨h1, rfl⟩ | ⟨h1, h2, rfl⟩ | ⟨h1, h2, rfl⟩
  · have z1 : (2 : Int) < (n : Int) := by omega
    clear hst
    go_enter Tryd.func22, Tryd.ntmps22
    go_wp2_with fail
    go_loopg [6, 7] n (fun g s6 s7 wx => ∃ (i : Nat) (bb : Bool), i + g = n ∧ s7 = .int .i64 i ∧ s6 = .bool bb ∧ Hid (bb = (true || ((rs.map (·.l)).take i).any Mac.tooLong)) ∧ wx = w)
    case atStart => exact ⟨0, true, by omega, rfl, rfl, Lib.hid (by simp), rfl⟩
    case round =>
      obtain ⟨i, bb, hig, rfl, rfl, hbb, rfl⟩ := hrel
      cases gk with
      | zero =>
        obtain rfl : i = n := by omega
        have hfull : (rs.map (·.l)).take i = rs.map (·.l) := List.take_of_length_le (by rw [List.length_map, HL.out]; exact Nat.le_refl _)
        rw [hfull] at hbb
        have HBB := Lib.hid hbb.out
        clear hfull hbb
        cases bb with
        | true =>
          have hno : ¬ (Mac.right (rs.map (·.l)) = true ∧ key.length ≤ 128) := by rw [HBAD.out, ← HBB.out]; simp
          have hte : te = 12 := by rw [HTE.out, if_neg hno]
          have HX : Hid (Mac.turn (rs.map (·.l)) key = rs.map (·.l)) := Lib.hid (by rw [HTU.out, if_neg hno])
          subst hte
          clear hno HTE HTU
          go_wp2_with fail
          go_ret2
          exact ⟨A, c, i, rs, rfl, HR.out, HX.out.symm, Below.refl _ _⟩
        | false => exact absurd HBB.out (by simp)
      | succ g =>
        have hi : i < n := by omega
        have hiz : (i : Int) < (n : Int) := by omega
        obtain ⟨b0', off, k, hAe, hbs, hc, hmem, hk⟩ := HR.out.cell hi
        have hkl := (HR.out.keys k hmem).rd.blen
        have hsn : ((rs.map (·.l)).take (i + 1)).any Mac.tooLong = (((rs.map (·.l)).take i).any Mac.tooLong || Mac.tooLong k.l) := by
          rw [List.take_add_one, List.getElem?_map, hk.out]
          simp
        have htl : Mac.tooLong k.l = decide (128 < k.n) := by unfold Mac.tooLong; rw [hkl]
        have HSN := Lib.hid (hsn.trans (by rw [htl]))
        clear hmem hk hkl hsn htl
        subst hAe
        cases bb with
        | true =>
          go_wp2_with fail
          go_roundg g
          case measure => omega
          case rel => exact ⟨i + 1, true, by omega, by go_num, rfl, Lib.hid (by rw [HSN.out, ← Bool.or_assoc, ← hbb.out]; rfl), rfl⟩
        | false =>
          by_cases h3 : 128 < k.n
          · have h3z : (128 : Int) < (k.n : Int) := by omega
            have HD : Hid (decide (128 < k.n) = true) := Lib.hid (by simp [h3])
            go_wp2_with fail
            go_roundg g
            case measure => omega
            case rel => exact ⟨i + 1, true, by omega, by go_num, rfl, Lib.hid (by rw [HSN.out, ← Bool.or_assoc, ← hbb.out, HD.out]; rfl), rfl⟩
          · have h3z : ¬ (128 : Int) < (k.n : Int) := by omega
            have HD : Hid (decide (128 < k.n) = false) := Lib.hid (by simp; omega)
            go_wp2_with fail
            go_roundg g
            case measure => omega
            case rel => exact ⟨i + 1, false, by omega, by go_num, rfl, Lib.hid (by rw [HSN.out, ← Bool.or_assoc, ← hbb.out, HD.out]; rfl), rfl⟩
  · have z1 : ¬ (2 : Int) < (n : Int) := by omega
    have z2 : (128 : Int) < (m : Int) := by omega
    clear hst
    go_enter Tryd.func22, Tryd.ntmps22
    go_wp2_with fail
    go_loopg [6, 7] n (fun g s6 s7 wx => ∃ (i : Nat) (bb : Bool), i + g = n ∧ s7 = .int .i64 i ∧ s6 = .bool bb ∧ Hid (bb = (true || ((rs.map (·.l)).take i).any Mac.tooLong)) ∧ wx = w)
    case atStart => exact ⟨0, true, by omega, rfl, rfl, Lib.hid (by simp), rfl⟩
    case round =>
      obtain ⟨i, bb, hig, rfl, rfl, hbb, rfl⟩ := hrel
      cases gk with
      | zero =>
        obtain rfl : i = n := by omega
        have hfull : (rs.map (·.l)).take i = rs.map (·.l) := List.take_of_length_le (by rw [List.length_map, HL.out]; exact Nat.le_refl _)
        rw [hfull] at hbb
        have HBB := Lib.hid hbb.out
        clear hfull hbb
        cases bb with
        | true =>
          have hno : ¬ (Mac.right (rs.map (·.l)) = true ∧ key.length ≤ 128) := by rw [HBAD.out, ← HBB.out]; simp
          have hte : te = 12 := by rw [HTE.out, if_neg hno]
          have HX : Hid (Mac.turn (rs.map (·.l)) key = rs.map (·.l)) := Lib.hid (by rw [HTU.out, if_neg hno])
          subst hte
          clear hno HTE HTU
          go_wp2_with fail
          go_ret2
          exact ⟨A, c, i, rs, rfl, HR.out, HX.out.symm, Below.refl _ _⟩
        | false => exact absurd HBB.out (by simp)
      | succ g =>
        have hi : i < n := by omega
        have hiz : (i : Int) < (n : Int) := by omega
        obtain ⟨b0', off, k, hAe, hbs, hc, hmem, hk⟩ := HR.out.cell hi
        have hkl := (HR.out.keys k hmem).rd.blen
        have hsn : ((rs.map (·.l)).take (i + 1)).any Mac.tooLong = (((rs.map (·.l)).take i).any Mac.tooLong || Mac.tooLong k.l) := by
          rw [List.take_add_one, List.getElem?_map, hk.out]
          simp
        have htl : Mac.tooLong k.l = decide (128 < k.n) := by unfold Mac.tooLong; rw [hkl]
        have HSN := Lib.hid (hsn.trans (by rw [htl]))
        clear hmem hk hkl hsn htl
        subst hAe
        cases bb with
        | true =>
          go_wp2_with fail
          go_roundg g
          case measure => omega
          case rel => exact ⟨i + 1, true, by omega, by go_num, rfl, Lib.hid (by rw [HSN.out, ← Bool.or_assoc, ← hbb.out]; rfl), rfl⟩
        | false =>
          by_cases h3 : 128 < k.n
          · have h3z : (128 : Int) < (k.n : Int) := by omega
            have HD : Hid (decide (128 < k.n) = true) := Lib.hid (by simp [h3])
            go_wp2_with fail
            go_roundg g
            case measure => omega
            case rel => exact ⟨i + 1, true, by omega, by go_num, rfl, Lib.hid (by rw [HSN.out, ← Bool.or_assoc, ← hbb.out, HD.out]; rfl), rfl⟩
          · have h3z : ¬ (128 : Int) < (k.n : Int) := by omega
            have HD : Hid (decide (128 < k.n) = false) := Lib.hid (by simp; omega)
            go_wp2_with fail
            go_roundg g
            case measure => omega
            case rel => exact ⟨i + 1, false, by omega, by go_num, rfl, Lib.hid (by rw [HSN.out, ← Bool.or_assoc, ← hbb.out, HD.out]; rfl), rfl⟩
  · have z1 : ¬ (2 : Int) < (n : Int) := by omega
    have z2 : ¬ (128 : Int) < (m : Int) := by omega
    clear hst
    go_enter Tryd.func22, Tryd.ntmps22
    go_wp2_with fail
    go_loopg [6, 7] n (fun g s6 s7 wx => ∃ (i : Nat) (bb : Bool), i + g = n ∧ s7 = .int .i64 i ∧ s6 = .bool bb ∧ Hid (bb = (false || ((rs.map (·.l)).take i).any Mac.tooLong)) ∧ wx = w)
    case atStart => exact ⟨0, false, by omega, rfl, rfl, Lib.hid (by simp), rfl⟩
    case round =>
      obtain ⟨i, bb, hig, rfl, rfl, hbb, rfl⟩ := hrel
      cases gk with
      | zero =>
        obtain rfl : i = n := by omega
        have hfull : (rs.map (·.l)).take i = rs.map (·.l) := List.take_of_length_le (by rw [List.length_map, HL.out]; exact Nat.le_refl _)
        rw [hfull] at hbb
        have HBB := Lib.hid hbb.out
        clear hfull hbb
        cases bb with
        | true =>
          have hno : ¬ (Mac.right (rs.map (·.l)) = true ∧ key.length ≤ 128) := by rw [HBAD.out, ← HBB.out]; simp
          have hte : te = 12 := by rw [HTE.out, if_neg hno]
          have HX : Hid (Mac.turn (rs.map (·.l)) key = rs.map (·.l)) := Lib.hid (by rw [HTU.out, if_neg hno])
          subst hte
          clear hno HTE HTU
          go_wp2_with fail
          go_ret2
          exact ⟨A, c, i, rs, rfl, HR.out, HX.out.symm, Below.refl _ _⟩
        | false =>
          have hyes : Mac.right (rs.map (·.l)) = true ∧ key.length ≤ 128 := by rw [HBAD.out, ← HBB.out]
          have hte : te = 0 := by rw [HTE.out, if_pos hyes]
          have HX : Hid (Mac.turn (rs.map (·.l)) key = key :: (rs.map (·.l)).take 1) := Lib.hid (by rw [HTU.out, if_pos hyes])
          subst hte
          clear hyes HTE HTU
          have HW1 := Lib.hid (own_cell1 wr 24 (.slice B m d))
          have hb1 := (Below.refl wr.heap.size wr).alloc (Nat.le_refl _) (.cells #[.slice B m d] 24)
          rcases Nat.eq_zero_or_pos i with h0 | h0
          · have hnz : ¬ (0 : Int) < (i : Int) := by omega
            have hrs : Hid (rs = []) := Lib.hid (List.eq_nil_of_length_eq_zero (by rw [HL.out]; exact h0))
            go_wp2_with fail
            go_ret2
            refine ⟨_, 1, 1, [⟨B, m, d, key⟩], rfl, ⟨rfl, Rd.of_own HW1.out, fun k hk => ?_⟩, ?_, hb1⟩
            · rw [List.mem_singleton] at hk
              subst hk
              exact HKEY.out.below hb1
            · rw [HX.out, hrs.out]; rfl
          · have hnz : (0 : Int) < (i : Int) := by omega
            obtain ⟨b0', off, k, hAe, hbs, hc, hmem, hk⟩ := HR.out.cell h0
            rw [Nat.add_zero] at hc
            have HKK := Lib.hid (HR.out.keys k hmem)
            have HT1 : Hid ((rs.map (·.l)).take 1 = [k.l]) := Lib.hid (by
              have := hk.out
              rcases rs with _ | ⟨k0, r⟩
              · simp at this
              · simp at this
                subst this
                simp)
            clear hmem hk
            subst hAe
            go_wp2_with (at_builtin; refine wpList_app _ rfl (.tmp 39) (.tmp 43) 35 rfl wr (by exact hb1.alloc hb1.size _) 24 (.slice none 0 0) 1 24 Tryd.underlying35 ring_info rfl (by decide) _ 1 [.slice B m d] rfl (by exact HW1.out.alloc _) (some ⟨wr.heap.size + 1, 0, none⟩) 1 1 [.slice k.A k.n k.c] rfl (by exact rd_one_at _ _ _ _ (by simp)) (one_sl _ _ _) (by unfold maxLen; omega) (by omega) ?_; intro A4 c4 w4 hown4 hb4 hg4 hat4)
            go_ret2
            refine ⟨A4, c4, 2, [⟨B, m, d, key⟩, k], rfl, ⟨rfl, Rd.of_own hown4, fun k' hk' => ?_⟩, ?_, hb4⟩
            · simp only [List.mem_cons, List.not_mem_nil, or_false] at hk'
              rcases hk' with rfl | rfl
              · exact HKEY.out.below hb4
              · exact HKK.out.below hb4
            · rw [HX.out, HT1.out]; rfl
      | succ g =>
        have hi : i < n := by omega
        have hiz : (i : Int) < (n : Int) := by omega
        obtain ⟨b0', off, k, hAe, hbs, hc, hmem, hk⟩ := HR.out.cell hi
        have hkl := (HR.out.keys k hmem).rd.blen
        have hsn : ((rs.map (·.l)).take (i + 1)).any Mac.tooLong = (((rs.map (·.l)).take i).any Mac.tooLong || Mac.tooLong k.l) := by
          rw [List.take_add_one, List.getElem?_map, hk.out]
          simp
        have htl : Mac.tooLong k.l = decide (128 < k.n) := by unfold Mac.tooLong; rw [hkl]
        have HSN := Lib.hid (hsn.trans (by rw [htl]))
        clear hmem hk hkl hsn htl
        subst hAe
        cases bb with
        | true =>
          go_wp2_with fail
          go_roundg g
          case measure => omega
          case rel => exact ⟨i + 1, true, by omega, by go_num, rfl, Lib.hid (by rw [HSN.out, ← Bool.or_assoc, ← hbb.out]; rfl), rfl⟩
        | false =>
          by_cases h3 : 128 < k.n
          · have h3z : (128 : Int) < (k.n : Int) := by omega
            have HD : Hid (decide (128 < k.n) = true) := Lib.hid (by simp [h3])
            go_wp2_with fail
            go_roundg g
            case measure => omega
            case rel => exact ⟨i + 1, true, by omega, by go_num, rfl, Lib.hid (by rw [HSN.out, ← Bool.or_assoc, ← hbb.out, HD.out]; rfl), rfl⟩
          · have h3z : ¬ (128 : Int) < (k.n : Int) := by omega
            have HD : Hid (decide (128 < k.n) = false) := Lib.hid (by simp; omega)
            go_wp2_with fail
            go_roundg g
            case measure => omega
            case rel => exact ⟨i + 1, false, by omega, by go_num, rfl, Lib.hid (by rw [HSN.out, ← Bool.or_assoc, ← hbb.out, HD.out]; rfl), rfl⟩
end Go.Proofs.YtjikegapljdddaaDoor
