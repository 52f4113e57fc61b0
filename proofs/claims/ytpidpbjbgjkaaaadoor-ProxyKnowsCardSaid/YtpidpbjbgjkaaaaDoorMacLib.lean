/- The walks of slices.Grow (from nil), slices.Concat (of two), bytes.Clone. -/
import Derived.Test.YtpidpbjbgjkaaaaDoorShaSum
import Derived.Lib.AppendZerosOnto
namespace Go.Proofs.YtpidpbjbgjkaaaaDoor
open Go.RowKit
set_option linter.unusedVariables false
theorem own_empty {w : World} {e : TypeId} (base cap : Nat) (cur : Array Value) (hb : base ≤ w.heap.size) (hm : cap ≤ maxLen) (hs : cur.size = cap) : (w.alloc (.cells cur e)).ownsRow base e 1 (.slice (some ⟨w.heap.size, 0, none⟩) 0 cap) 0 [] :=
  ⟨rfl, .inr ⟨w.heap.size, cap, cur, rfl, hb, heap_alloc_new w _, Nat.zero_le _, hm, by omega, by simp⟩⟩
theorem wpList_run {P : Program} {w w' : World} {ops : Array Oper} {rest : List Oper} {o : Oper} {a : Act} {Q : Exit → Act → World → Prop} (hgd : o.guard = none) (s x : Operand) (t tn : TypeId)
    (ho : o.op = .call { callee := .builtin .append, args := #[s, x], argTypes := #[t, tn] }) (v1 v2 v : Value) (hs : a.eval s = v1) (hx : a.eval x = v2)
    (hrun : ∀ ty, (Builtin.append_ #[t, tn] ty #[v1, v2]).run P w = .ok v w') (h : wpList P ops Q rest (a.put o.dst v) w') : wpList P ops Q (o :: rest) a w := by
  refine wpList_plain hgd fun K hK => ?_
  unfold Oper.wp execOp
  simp only [ho, resolve, invoke, builtin, Sem.run_bind, Sem.run_pure, Result.andThen_ok, List.map_toArray, List.map_cons, List.map_nil, hs, hx, hrun]
  exact hK _ _ h
set_option maxHeartbeats 1000000 in
theorem grow_spec (n : Nat) (w : World) (hn : n ≤ 4294967295) :
    Calls Tryd.prog 80 #[.slice none 0 0, .int .i64 n] w fun e w' => ∃ A c, e = .returned (.slice A 0 c) ∧ w'.ownsRow w.heap.size 5 1 (.slice A 0 c) 0 [] ∧ Below w.heap.size w w' := by
  by_cases h0 : n = 0
  · subst h0
    go_enter Tryd.func80, Tryd.ntmps80
    go_wp2_with fail
    go_ret
    exact ⟨none, 0, rfl, World.ownsRow_nil _ _ _ _, Below.refl _ _⟩
  obtain ⟨i, hi, hz, hsize, hby⟩ := info_parts pad_info8
  have hzc : (Value.int .u8 0).cells = #[.int .u8 0] := rfl
  obtain ⟨c, cur, hc, hcs, hrun⟩ : ∃ c cur, c ≤ maxLen ∧ cur.size = c ∧ ∀ ty, (Builtin.append_ #[27, 3] ty #[.slice none 0 0, .int .i64 (n : Int)]).run Tryd.prog w = .ok (.slice (some ⟨w.heap.size, 0, none⟩) n c) (w.drew.alloc (.cells cur 5)) := by
    have hold : (Builtin.firstCells i.size 0 (.slice none 0 0)).run Tryd.prog w.drew = .ok ([] : List Value).toArray w.drew := run_firstCells_none w.drew i.size 0 0 0
    have h := fun ty => Lib.run_append_grow_zeros w 27 3 ty 5 i (.int .u8 0) .i64 .i64 Tryd.underlying27 Tryd.underlying3 hi hz none 0 0 [] hold n (by omega) (by omega) (by omega) (by omega) (by rw [hby]; omega) (growslice_fits (by omega) (by rw [hby]; omega))
    simp only [Nat.zero_add] at h
    have hge := grownCap_ge w n 0 5
    refine ⟨_, _, grownCap_le_maxLen w n 0 5 (by unfold maxLen; omega), ?_, h⟩
    simp [hzc, size_zeroCells]
    omega
  have hn0 : (0 : Int) < (n : Int) := by omega
  have hc0 : (0 : Int) ≤ (c : Int) := by omega
  have HRUN := Lib.hid hrun
  clear hi hz hsize hby hrun
  go_enter Tryd.func80, Tryd.ntmps80
  go_wp2_with (at_builtin; refine wpList_run (by rfl) (.tmp 20) (.tmp 21) 27 3 (by rfl) _ _ _ (by rfl) (by rfl) (fun ty => HRUN.out ty) ?_)
  go_ret
  exact ⟨_, c, rfl, own_empty (w := w.drew) w.heap.size c cur (Nat.le_refl _) hc hcs, ((Below.refl _ _).drew).alloc (Nat.le_refl _) _⟩
theorem own_app0 (w : World) (base : Nat) (A : Option Addr) (c : Nat) (h : w.ownsRow base 5 1 (.slice A 0 c) 0 []) : w.ownsRow base 5 1 (.slice A 0 c) 0 (bs []) := h
set_option maxHeartbeats 2000000 in
theorem concat_spec (g c0 : Nat) (A : Option Addr) (n c : Nat) (B : Option Addr) (m d : Nat) (a b : List Int) (w : World) (hg : g < w.heap.size) (h0 : w.cell? ⟨g, 0, none⟩ = some (.slice A n c)) (h1 : w.cell? ⟨g, 1, none⟩ = some (.slice B m d))
    (hA : Rd w 1 A n (bs a)) (hB : Rd w 1 B m (bs b)) (hn : n + m ≤ 4294967295) :
    Calls Tryd.prog 73 #[.slice (some ⟨g, 0, none⟩) 2 c0] w fun e w' => ∃ A' c', e = .returned (.slice A' (n + m) c') ∧ w'.ownsRow w.heap.size 5 1 (.slice A' (n + m) c') (n + m) (bs (a ++ b)) ∧ Below w.heap.size w w' := by
  have HRA := Lib.hid hA
  have HRB := Lib.hid hB
  have KC : Hid (∀ w', Below w.heap.size w w' → w'.cell? ⟨g, 0, none⟩ = some (.slice A n c) ∧ w'.cell? ⟨g, 1, none⟩ = some (.slice B m d)) := Lib.hid fun w' hb => ⟨(hb.cell (p := ⟨g, 0, none⟩) hg).trans h0, (hb.cell (p := ⟨g, 1, none⟩) hg).trans h1⟩
  clear hA hB
  go_enter Tryd.func73, Tryd.ntmps73
  go_wp2_with fail
  go_loopg [3, 11] 2 (fun g s3 s11 wx => ∃ i k : Nat, i + g = 2 ∧ k = (if i = 0 then 0 else if i = 1 then n else n + m) ∧ s11 = .int .i64 i ∧ s3 = .int .i64 k ∧ wx = w)
  case atStart => exact ⟨0, 0, by omega, rfl, rfl, rfl, rfl⟩
  case round =>
    obtain ⟨i, k, hig, hk, rfl, rfl, rfl⟩ := hrel
    rcases (show i = 0 ∨ i = 1 ∨ i = 2 by omega) with rfl | rfl | rfl
    · obtain rfl : gk = 2 := by omega
      obtain rfl : k = 0 := hk
      go_wp2_with fail
      go_roundg 1
      case measure => omega
      case rel => exact ⟨1, n, by omega, rfl, rfl, by simp, rfl⟩
    · obtain rfl : gk = 1 := by omega
      obtain rfl : k = n := hk
      go_wp2_with fail
      go_roundg 0
      case measure => omega
      case rel => exact ⟨2, k + m, by omega, rfl, rfl, by go_num, rfl⟩
    · obtain rfl : gk = 0 := by omega
      have hk' : k = n + m := hk
      clear hk h0 h1
      have HK := Lib.hid hk'
      have hkb : k ≤ 4294967295 := by omega
      clear hk'
      obtain ⟨wb, rfl⟩ : ∃ wb : World, wb = wr := ⟨_, rfl⟩
      go_wp2_with fail
      refine (grow_spec k _ hkb).mono ?_
      rintro e w1 ⟨A1, c1, rfl, hown1, hb1⟩
      have HO1 := Lib.hid hown1
      clear hown1
      go_wp2_with fail
      go_loopg [6, 27] 2 (fun g s6 s27 wx => ∃ (i k : Nat) (A' : Option Addr) (c' : Nat), i + g = 2 ∧ k = (if i = 0 then 0 else if i = 1 then n else n + m) ∧ s27 = .int .i64 i ∧ s6 = .slice A' k c' ∧ wx.ownsRow wb.heap.size 5 1 (.slice A' k c') k (bs (if i = 0 then [] else if i = 1 then a else a ++ b)) ∧ Below wb.heap.size wb wx)
      case atStart => exact ⟨0, 0, A1, c1, by omega, rfl, rfl, rfl, HO1.out, hb1⟩
      case round =>
        obtain ⟨i, k2, A2, c2, hig2, hk2, rfl, rfl, hown, hb2⟩ := hrel
        clear hb1 HO1
        have hb2' := hb2.size
        have HO := Lib.hid hown
        clear hown
        rcases (show i = 0 ∨ i = 1 ∨ i = 2 by omega) with rfl | rfl | rfl
        · obtain rfl : gk = 2 := by omega
          obtain rfl : k2 = 0 := hk2
          obtain ⟨q0, q1⟩ := KC.out _ hb2
          go_wp2_with (at_builtin; refine wpList_app _ rfl (.tmp 31) (.tmp 32) 27 rfl wb (by exact hb2) 5 (.int .u8 0) 1 1 Tryd.underlying27 pad_info8 rfl (by decide) _ 0 (bs []) rfl (by exact HO.out) A n c (bs a) rfl (by exact HRA.out.below hb2) (one_bs _) (by unfold maxLen; omega) (by omega) ?_; intro A4 c4 w4 hown4 hb4 hg4 hat4)
          go_roundg 1
          case measure => omega
          case rel => exact ⟨1, n, A4, c4, by omega, by simp, rfl, rfl, by rw [Nat.zero_add] at hown4; exact hown4, hb4⟩
        · obtain rfl : gk = 1 := by omega
          obtain rfl : k2 = n := hk2
          obtain ⟨q0, q1⟩ := KC.out _ hb2
          go_wp2_with (at_builtin; refine wpList_app _ rfl (.tmp 31) (.tmp 32) 27 rfl wb (by exact hb2) 5 (.int .u8 0) 1 1 Tryd.underlying27 pad_info8 rfl (by decide) _ k2 (bs a) rfl (by exact HO.out) B m d (bs b) rfl (by exact HRB.out.below hb2) (one_bs _) (by unfold maxLen; omega) (by omega) ?_; intro A4 c4 w4 hown4 hb4 hg4 hat4)
          go_roundg 0
          case measure => omega
          case rel => exact ⟨2, k2 + m, A4, c4, by omega, by simp, rfl, rfl, by rw [← bs_append] at hown4; exact hown4, hb4⟩
        · obtain rfl : gk = 0 := by omega
          have hk2' : k2 = n + m := hk2
          subst hk2'
          clear hk2
          go_wp2_with fail
          go_ret
          exact ⟨A2, c2, rfl, HO.out, hb2⟩
set_option maxHeartbeats 1000000 in
theorem clone_spec (A : Option Addr) (n c : Nat) (l : List Int) (w : World) (hR : Rd w 1 A n (bs l)) (hn : n ≤ 4294967295) :
    Calls Tryd.prog 49 #[.slice A n c] w fun e w' => ∃ A' c', e = .returned (.slice A' n c') ∧ w'.ownsRow w.heap.size 5 1 (.slice A' n c') n (bs l) ∧ Below w.heap.size w w' := by
  have HR := Lib.hid hR
  clear hR
  rcases A with _ | ad
  · obtain rfl : n = 0 := by
      rcases Nat.eq_zero_or_pos n with h | h
      · exact h
      · obtain ⟨b, off, e, _⟩ := HR.out.2 h
        cases e
    have hl : l = [] := List.eq_nil_of_length_eq_zero (by rw [HR.out.blen])
    subst hl
    have q := fun (W : World) => Lib.run_eql_slice_nil (P := Tryd.prog) W 27 5 none 0 c 0 0 Tryd.underlying27
    go_enter Tryd.func49, Tryd.ntmps49
    go_wp2_with fail
    go_ret
    exact ⟨none, 0, rfl, World.ownsRow_nil _ _ _ _, Below.refl _ _⟩
  · have q := fun (W : World) => Lib.run_eql_slice_nil (P := Tryd.prog) W 27 5 (some ad) n c 0 0 Tryd.underlying27
    go_enter Tryd.func49, Tryd.ntmps49
    go_wp2_with (at_builtin; refine wpList_app0 _ rfl (.tmp 5) (.tmp 6) 27 rfl w (by exact Below.refl _ _) 5 (.int .u8 0) 1 1 Tryd.underlying27 pad_info8 rfl (by decide) rfl (some ad) n c (bs l) rfl (by exact HR.out) (one_bs l) (by unfold maxLen; omega) (by omega) ?_; intro A1 c1 w1 hown1 hb1 hg1 hat1)
    go_ret
    exact ⟨A1, c1, rfl, hown1, hb1⟩
end Go.Proofs.YtpidpbjbgjkaaaaDoor
