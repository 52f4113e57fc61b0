/- Each call of the proxy beside its reference's: the same answer, for every input. The walk of the proxy law's short. -/
import Derived.Test.YtpidpbjbgjkaaaaDoorJ5
import Derived.Test.YtpidpbjbgjkaaaaDoorJ6
import Derived.Test.YtpidpbjbgjkaaaaDoorJ7
import Derived.Test.YtpidpbjbgjkaaaaDoorJ8
import Derived.Test.YtpidpbjbgjkaaaaDoorProxShS
import Derived.Test.YtpidpbjbgjkaaaaDoorProxShC
import Derived.Test.YtpidpbjbgjkaaaaDoorMacRing0
namespace Go.Proofs.YtpidpbjbgjkaaaaDoor
open Go.RowKit
set_option maxRecDepth 8000
set_option linter.unusedVariables false
set_option linter.unusedSimpArgs false
theorem pair_ans (t : Tcp.T) (c : Int) (h0 : 0 ≤ c) (h1 : c ≤ 4294967295) (hsq : 0 ≤ t.sq ∧ t.sq ≤ 4294967295) : ∃ (C : Prox.C) (n : Int), (∀ w, Calls Tryd.prog 8 #[.agg #[.int .i64 t.sp, .int .i64 t.dp, .int .u32 t.sq, .int .u32 t.ak, .int .i64 t.fl, .int .i64 t.wi, .int .i64 t.ur, .slice t.Ao t.no t.co, .slice t.Ab t.nb t.cb], .int .u32 c] w (SegR (some C) n w)) ∧ (∀ w, Calls Tryd.prog 9 #[.agg #[.int .i64 t.sp, .int .i64 t.dp, .int .u32 t.sq, .int .u32 t.ak, .int .i64 t.fl, .int .i64 t.wi, .int .i64 t.ur, .slice t.Ao t.no t.co, .slice t.Ab t.nb t.cb], .int .u32 c] w (SegR (some C) n w)) := by
  cases h : (Go.bits .and .i64 t.fl 23 == 2)
  · exact ⟨_, _, fun w => pans_no t c w h, fun w => rans_no t c w h⟩
  · exact ⟨_, _, fun w => pans_ok t c w h0 h1 h, fun w => rans_ok t c w h0 h1 hsq h⟩
theorem pair_ask (t : Tcp.T) (m : Int) (hw : -9223372036854775808 ≤ t.wi ∧ t.wi ≤ 9223372036854775807) (hsq : 0 ≤ t.sq ∧ t.sq ≤ 4294967295) : ∃ (C : Prox.C) (n : Int), (∀ w, Calls Tryd.prog 13 #[.agg #[.int .i64 t.sp, .int .i64 t.dp, .int .u32 t.sq, .int .u32 t.ak, .int .i64 t.fl, .int .i64 t.wi, .int .i64 t.ur, .slice t.Ao t.no t.co, .slice t.Ab t.nb t.cb], .int .i64 m] w (SegR (some C) n w)) ∧ (∀ w, Calls Tryd.prog 14 #[.agg #[.int .i64 t.sp, .int .i64 t.dp, .int .u32 t.sq, .int .u32 t.ak, .int .i64 t.fl, .int .i64 t.wi, .int .i64 t.ur, .slice t.Ao t.no t.co, .slice t.Ab t.nb t.cb], .int .i64 m] w (SegR (some C) n w)) := by
  cases h : (Go.bits .and .i64 t.fl 23 == 16)
  · exact ⟨_, _, fun w => pask_no t m w h, fun w => rask_no t m w h⟩
  · by_cases hm : m < 0 ∨ 65535 < m
    · exact ⟨_, _, fun w => pask_bad t m w h hm, fun w => rask_bad t m w h hm⟩
    · exact ⟨_, _, fun w => pask_ok t m w hw (by omega) (by omega) h, fun w => rask_ok t m w hw (by omega) (by omega) hsq h⟩
theorem pair_known (A : Option Addr) (n c : Nat) (rs : List Mac.Key) (x : Cook.Tup) (hx : x.wf) (t : Tcp.T) (ep : Int) (w : World) (hT : Tabs w) (hK : TabK w) (hr : Mac.Ring w A n rs) (hbig : n ≤ 9223372036854775807) (hsq : 0 ≤ t.sq ∧ t.sq ≤ 4294967295) (hak : 0 ≤ t.ak ∧ t.ak ≤ 4294967295) :
    ∃ (k : Int) (b : Bool), (∀ w1, Below w.heap.size w w1 → Calls Tryd.prog 10 #[.slice A n c, .agg #[.int .i64 x.proto, .int .u32 x.src, .int .i64 x.sport, .int .u32 x.dst, .int .i64 x.dport], .agg #[.int .i64 t.sp, .int .i64 t.dp, .int .u32 t.sq, .int .u32 t.ak, .int .i64 t.fl, .int .i64 t.wi, .int .i64 t.ur, .slice t.Ao t.no t.co, .slice t.Ab t.nb t.cb], .int .i64 ep] w1 fun e w' => e = .returned (.tuple #[.int .i64 k, .bool b]) ∧ Below w1.heap.size w1 w') ∧ (∀ w1, Below w.heap.size w w1 → Calls Tryd.prog 11 #[.slice A n c, .agg #[.int .i64 x.proto, .int .u32 x.src, .int .i64 x.sport, .int .u32 x.dst, .int .i64 x.dport], .agg #[.int .i64 t.sp, .int .i64 t.dp, .int .u32 t.sq, .int .u32 t.ak, .int .i64 t.fl, .int .i64 t.wi, .int .i64 t.ur, .slice t.Ao t.no t.co, .slice t.Ab t.nb t.cb], .int .i64 ep] w1 fun e w' => e = .returned (.tuple #[.int .i64 k, .bool b]) ∧ Below w1.heap.size w1 w') := by
  cases h : (Go.bits .and .i64 t.fl 23 == 16)
  · exact ⟨_, _, fun w1 _ => pknown_no A n c x t ep w1 h, fun w1 _ => rknown_no A n c x t ep w1 h⟩
  · exact ⟨_, _, fun w1 hb => pknown_ok A n c rs x hx t ep w1 (hT.below hb) (hr.below hb) hbig h, fun w1 hb => rknown_ok A n c rs x hx t ep w1 (hK.below hb) (hr.below hb) hbig hsq hak h⟩
/-- what Learn answers: a shift, a segment without memory, and a number -/
def LearnP (s1 s2 : Int) (v : Tcp.T) (n : Int) (w : World) (e : Ending) (w' : World) : Prop :=
  e = .returned (.tuple #[.agg #[.int .u32 s1, .int .u32 s2], .agg v.cells.toArray, .int .i64 n]) ∧ Below w.heap.size w w'
theorem pair_learn (t u : Tcp.T) (st : Int) (w : World) (ht : t.ok w) (hu : u.ok w) : ∃ (s1 s2 : Int) (v : Tcp.T) (n : Int), (∀ w, v.ok w) ∧ (∀ w, Calls Tryd.prog 15 #[.agg #[.int .i64 t.sp, .int .i64 t.dp, .int .u32 t.sq, .int .u32 t.ak, .int .i64 t.fl, .int .i64 t.wi, .int .i64 t.ur, .slice t.Ao t.no t.co, .slice t.Ab t.nb t.cb], .agg #[.int .i64 u.sp, .int .i64 u.dp, .int .u32 u.sq, .int .u32 u.ak, .int .i64 u.fl, .int .i64 u.wi, .int .i64 u.ur, .slice u.Ao u.no u.co, .slice u.Ab u.nb u.cb], .int .u32 st] w (LearnP s1 s2 v n w)) ∧ (∀ w, Calls Tryd.prog 16 #[.agg #[.int .i64 t.sp, .int .i64 t.dp, .int .u32 t.sq, .int .u32 t.ak, .int .i64 t.fl, .int .i64 t.wi, .int .i64 t.ur, .slice t.Ao t.no t.co, .slice t.Ab t.nb t.cb], .agg #[.int .i64 u.sp, .int .i64 u.dp, .int .u32 u.sq, .int .u32 u.ak, .int .i64 u.fl, .int .i64 u.wi, .int .i64 u.ur, .slice u.Ao u.no u.co, .slice u.Ab u.nb u.cb], .int .u32 st] w (LearnP s1 s2 v n w)) := by
  cases h1 : (Go.bits .and .i64 t.fl 23 == 16)
  · exact ⟨0, 0, Tcp.zero, 14, tcp_zero_ok, fun w => plearn_no t u st w _ _ _ h1 rfl rfl rfl, fun w => rlearn_no t u st w _ _ _ h1 rfl rfl rfl⟩
  cases h2 : (Go.bits .and .i64 u.fl 23 == 18)
  · exact ⟨0, 0, Tcp.zero, 14, tcp_zero_ok, fun w => plearn_no t u st w _ _ _ h1 h2 rfl rfl, fun w => rlearn_no t u st w _ _ _ h1 h2 rfl rfl⟩
  cases h3 : (u.ak == t.sq)
  · exact ⟨0, 0, Tcp.zero, 14, tcp_zero_ok, fun w => plearn_no t u st w _ _ _ h1 h2 h3 rfl, fun w => rlearn_no t u st w _ _ _ h1 h2 h3 rfl⟩
  have e1 := Lib.hid (eq_of_beq h1)
  have e2 := Lib.hid (eq_of_beq h2)
  have e3 := Lib.hid (eq_of_beq h3)
  refine ⟨(u.sq - Seq.step t.ak (-1)) % 4294967296, st, ⟨u.dp, u.sp, u.ak, Seq.step u.sq 1, 16, t.wi, 0, none, 0, 0, none, 0, 0, [], []⟩, 0, fun w => ?_, fun w => plearn_spec t u st w e1 e2 e3, fun w => rlearn_spec t u st w e1 e2 e3 ht.ak hu.sq⟩
  exact ⟨hu.ak, (by simp only [Seq.step]; omega), (show (-9223372036854775808 : Int) ≤ 16 ∧ (16 : Int) ≤ 9223372036854775807 by decide), ht.wi, ⟨rfl, fun o h => (by cases h), fun h => absurd h (by simp)⟩, Nat.le_refl 0, Nat.zero_le _, ⟨rfl, fun h => absurd h (by simp)⟩, fun x h => (by cases h), Nat.le_refl 0, Nat.zero_le _⟩
theorem ShiftR.S {C : Prox.C} {w w' : World} {e : Ending} (h : ShiftR C w e w') : ShiftS C w e w' := by
  obtain ⟨hb, u, he, hu, hc⟩ := h
  exact ⟨hb, u, he, hu.ok, hc⟩
theorem pair_toS (t : Tcp.T) (s st : Int) (w : World) (ht : t.ok w) (hsm : t.con.small) (h0 : 0 ≤ s) (h1 : s ≤ 4294967295) (h2 : 0 ≤ st) (h3 : st ≤ 4294967295) :
    ∃ C : Prox.C, (∀ w1, Below w.heap.size w w1 → Calls Tryd.prog 17 #[.agg #[.int .i64 t.sp, .int .i64 t.dp, .int .u32 t.sq, .int .u32 t.ak, .int .i64 t.fl, .int .i64 t.wi, .int .i64 t.ur, .slice t.Ao t.no t.co, .slice t.Ab t.nb t.cb], .agg #[.int .u32 s, .int .u32 st]] w1 (ShiftS C w1)) ∧ (∀ w1, Below w.heap.size w w1 → Calls Tryd.prog 18 #[.agg #[.int .i64 t.sp, .int .i64 t.dp, .int .u32 t.sq, .int .u32 t.ak, .int .i64 t.fl, .int .i64 t.wi, .int .i64 t.ur, .slice t.Ao t.no t.co, .slice t.Ab t.nb t.cb], .agg #[.int .u32 s, .int .u32 st], .bool true] w1 (ShiftS C w1)) :=
  ⟨_, fun w1 hb => (ptos_spec t s st w1 (ht.below hb) hsm h0 h1 h2 h3).mono fun e w' h => h.S, fun w1 hb => rshift_S t s st w1 (ht.below hb) hsm h0 h1 h2 h3⟩
theorem pair_toC (t : Tcp.T) (s st : Int) (w : World) (ht : t.ok w) (hsm : t.con.small) (h0 : 0 ≤ s) (h1 : s ≤ 4294967295) (h2 : 0 ≤ st) (h3 : st ≤ 4294967295) :
    ∃ C : Prox.C, (∀ w1, Below w.heap.size w w1 → Calls Tryd.prog 19 #[.agg #[.int .i64 t.sp, .int .i64 t.dp, .int .u32 t.sq, .int .u32 t.ak, .int .i64 t.fl, .int .i64 t.wi, .int .i64 t.ur, .slice t.Ao t.no t.co, .slice t.Ab t.nb t.cb], .agg #[.int .u32 s, .int .u32 st]] w1 (ShiftS C w1)) ∧ (∀ w1, Below w.heap.size w w1 → Calls Tryd.prog 18 #[.agg #[.int .i64 t.sp, .int .i64 t.dp, .int .u32 t.sq, .int .u32 t.ak, .int .i64 t.fl, .int .i64 t.wi, .int .i64 t.ur, .slice t.Ao t.no t.co, .slice t.Ab t.nb t.cb], .agg #[.int .u32 s, .int .u32 st], .bool false] w1 (ShiftS C w1)) :=
  ⟨_, fun w1 hb => (ptoc_spec t s st w1 (ht.below hb) hsm h0 h1 h2 h3).mono fun e w' h => h.S, fun w1 hb => rshift_C t s st w1 (ht.below hb) hsm h0 h1 h2 h3⟩
end Go.Proofs.YtpidpbjbgjkaaaaDoor
namespace Go.Proofs.YtpidpbjbgjkaaaaDoor
open Go.RowKit
set_option linter.unusedVariables false
set_option maxHeartbeats 1000000 in
theorem pcshort_spec (A : Option Addr) (n c : Nat) (rs : List Mac.Key) (w : World) (hr : Mac.Ring0 w A n rs) (hn : n ≤ 9223372036854775807) :
    Calls Tryd.prog 6 #[.slice A n c] w fun e w' => ∃ b : Bool, e = .returned (.bool b) ∧ (b = true → n ≤ 4 ∧ ∀ k ∈ rs, k.n ≤ 200) ∧ w = w' := by
  have HR := Lib.hid hr
  have HL := Lib.hid hr.len
  clear hr
  by_cases h4 : 4 < n
  · have hz : (4 : Int) < (n : Int) := by omega
    go_enter Tryd.func6, Tryd.ntmps6
    go_wp2_with fail
    go_ret
    exact ⟨false, rfl, fun h => by (cases h), rfl⟩
  have hz : ¬ (4 : Int) < (n : Int) := by omega
  go_enter Tryd.func6, Tryd.ntmps6
  go_wp2_with fail
  go_loopg [3] n (fun g s3 wx => ∃ i : Nat, i + g = n ∧ s3 = .int .i64 i ∧ Hid (∀ j k, j < i → rs[j]? = some k → k.n ≤ 200) ∧ wx = w)
  case atStart => exact ⟨0, by omega, rfl, Lib.hid (fun j k hj => absurd hj (Nat.not_lt_zero _)), rfl⟩
  case round =>
    obtain ⟨i, hig, rfl, hq, rfl⟩ := hrel
    cases gk with
    | zero =>
      obtain rfl : i = n := by omega
      go_wp2_with fail
      go_ret
      refine ⟨true, rfl, fun _ => ⟨by omega, fun k hk => ?_⟩, rfl⟩
      obtain ⟨j, hj⟩ := List.getElem?_of_mem hk
      exact hq.out j k (by have := (List.getElem?_eq_some_iff.1 hj).1; have := HL.out; omega) hj
    | succ g =>
      have hi : i < n := by omega
      have hiz : (i : Int) < (n : Int) := by omega
      obtain ⟨b0, off, k, rfl, hbs, hc, hmem, hk⟩ := HR.out.cell hi
      have hkb := (HR.out.keys k hmem).2.2
      clear hmem
      by_cases h3 : 200 < k.n
      · have h3z : (200 : Int) < (k.n : Int) := by omega
        go_wp2_with fail
        go_ret
        exact ⟨false, rfl, fun h => by (cases h), rfl⟩
      · have h3z : ¬ (200 : Int) < (k.n : Int) := by omega
        go_wp2_with fail
        go_roundg g
        case measure => omega
        case rel =>
          refine ⟨i + 1, by omega, by go_num, Lib.hid fun j k' hj hk' => ?_, rfl⟩
          by_cases e : j = i
          · subst e
            rw [hk.out] at hk'
            injection hk' with hk'
            subst hk'
            omega
          · exact hq.out j k' (by omega) hk'
theorem Mac.Ring0.ring2 {w : World} {A : Option Addr} {n : Nat} {rs : List Mac.Key} (h : Mac.Ring0 w A n rs) (hs : ∀ k ∈ rs, k.n ≤ 200) : Mac.Ring w A n rs := ⟨h.len, h.rd, fun k hk => ⟨(h.keys k hk).1, (h.keys k hk).2.1, by have := hs k hk; omega⟩⟩
end Go.Proofs.YtpidpbjbgjkaaaaDoor
