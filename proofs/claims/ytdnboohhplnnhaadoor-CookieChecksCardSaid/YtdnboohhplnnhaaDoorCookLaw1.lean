/- The walk of CookieChecks. -/
import Derived.Test.YtdnboohhplnnhaaDoorCookAw
import Derived.Test.YtdnboohhplnnhaaDoorMacRing0
namespace Go.Proofs.YtdnboohhplnnhaaDoor
open Go.RowKit
set_option linter.unusedVariables false
set_option maxHeartbeats 1000000 in
theorem cshort_spec (A : Option Addr) (n c : Nat) (rs : List Mac.Key) (w : World) (hr : Mac.Ring0 w A n rs) (hn : n ≤ 9223372036854775807) :
    Calls Tryd.prog 15 #[.slice A n c] w fun e w' => ∃ b : Bool, e = .returned (.bool b) ∧ (b = true → n ≤ 4 ∧ ∀ k ∈ rs, k.n ≤ 200) ∧ w = w' := by
  have HR := Lib.hid hr
  have HL := Lib.hid hr.len
  clear hr
  by_cases h4 : 4 < n
  · have hz : (4 : Int) < (n : Int) := by omega
    go_enter Tryd.func15, Tryd.ntmps15
    go_wp2_with fail
    go_ret
    exact ⟨false, rfl, fun h => by (cases h), rfl⟩
  have hz : ¬ (4 : Int) < (n : Int) := by omega
  go_enter Tryd.func15, Tryd.ntmps15
  go_wp2_with fail
  go_loopg [3] n (fun g s3 wx => ∃ i : Nat, i + g = n ∧ s3 = .int .i64 i ∧ Hid (∀ j k, j < i → rs[j]? = some k → k.n ≤ 200) ∧ wx = w)
  case atStart => exact ⟨0, by omega, rfl, Lib.hid (fun j k hj => absurd hj (Nat.not_lt_zero _)), rfl⟩
  case round =>
    obtain ⟨i, hig, rfl, hq, rfl⟩ := hrel
    cases gk with
    | zero =>
      obtain rfl : i = n := by omega
      go_wp2_with fail
      go_ret
      refine ⟨true, rfl, fun _ => ⟨by omega, fun k hk => ?_⟩, rfl⟩
      obtain ⟨j, hj⟩ := List.getElem?_of_mem hk
      exact hq.out j k (by have := (List.getElem?_eq_some_iff.1 hj).1; have := HL.out; omega) hj
    | succ g =>
      have hi : i < n := by omega
      have hiz : (i : Int) < (n : Int) := by omega
      obtain ⟨b0, off, k, rfl, hbs, hc, hmem, hk⟩ := HR.out.cell hi
      have hkb := (HR.out.keys k hmem).2.2
      clear hmem
      by_cases h3 : 200 < k.n
      · have h3z : (200 : Int) < (k.n : Int) := by omega
        go_wp2_with fail
        go_ret
        exact ⟨false, rfl, fun h => by (cases h), rfl⟩
      · have h3z : ¬ (200 : Int) < (k.n : Int) := by omega
        go_wp2_with fail
        go_roundg g
        case measure => omega
        case rel =>
          refine ⟨i + 1, by omega, by go_num, Lib.hid fun j k' hj hk' => ?_, rfl⟩
          by_cases e : j = i
          · subst e
            rw [hk.out] at hk'
            injection hk' with hk'
            subst hk'
            omega
          · exact hq.out j k' (by omega) hk'
theorem Mac.Ring0.ring2 {w : World} {A : Option Addr} {n : Nat} {rs : List Mac.Key} (h : Mac.Ring0 w A n rs) (hs : ∀ k ∈ rs, k.n ≤ 200) : Mac.Ring w A n rs := ⟨h.len, h.rd, fun k hk => ⟨(h.keys k hk).1, (h.keys k hk).2.1, by have := hs k hk; omega⟩⟩
set_option maxHeartbeats 4000000 in
theorem cookiechecks_walk (A : Option Addr) (n c : Nat) (rs : List Mac.Key) (t : Cook.Tup) (hw : t.wf) (sq ep ck : Int) (hs0 : 0 ≤ sq) (hs1 : sq ≤ 4294967295) (hc0 : 0 ≤ ck) (hc1 : ck ≤ 4294967295) (w : World) (hT : Tabs w) (hK : TabK w) (hr : Mac.Ring0 w A n rs) (hbig : n ≤ 9223372036854775807) :
    Calls Tryd.prog 4 #[.slice A n c, .agg #[.int .i64 t.proto, .int .u32 t.src, .int .i64 t.sport, .int .u32 t.dst, .int .i64 t.dport], .int .u32 sq, .int .i64 ep, .int .u32 ck] w fun e w' => e = .returned (.bool true) ∧ Below w.heap.size w w' := by
  obtain ⟨W, hW⟩ : ∃ W, W = w.alloc (.cells #[.int .i64 t.proto, .int .u32 t.src, .int .i64 t.sport, .int .u32 t.dst, .int .i64 t.dport] 25) := ⟨_, rfl⟩
  have hbW : Below w.heap.size w W := by rw [hW]; exact (Below.refl _ _).alloc (Nat.le_refl _) _
  have BT : BlkV W w.heap.size 25 [.int .i64 t.proto, .int .u32 t.src, .int .i64 t.sport, .int .u32 t.dst, .int .i64 t.dport] := by rw [hW]; exact BlkV.new _ _ _
  have K5 := Lib.hid (tup_c5 W t w.heap.size BT)
  have HA := Lib.hid (cook_awake W (hT.below hbW))
  have HS := Lib.hid (fun (w1 : World) (hb : Below W.heap.size W w1) => cshort_spec A n c rs w1 ((hr.below hbW).below hb) hbig)
  obtain ⟨b, hbB⟩ : ∃ b, Cook.checkB (rs.map (·.l)) t sq ep ck = b := ⟨_, rfl⟩
  obtain ⟨nn, hnn⟩ : ∃ nn, Cook.checkN (rs.map (·.l)) t sq ep ck = nn := ⟨_, rfl⟩
  have HC : Hid ((∀ k ∈ rs, k.n ≤ 200) → ∀ w1 : World, Below W.heap.size W w1 → Calls Tryd.prog 16 #[.slice A n c, .agg #[.int .i64 t.proto, .int .u32 t.src, .int .i64 t.sport, .int .u32 t.dst, .int .i64 t.dport], .int .u32 sq, .int .i64 ep, .int .u32 ck] w1 fun e w' => e = .returned (.tuple #[.int .i64 nn, .bool b]) ∧ Below w1.heap.size w1 w') := Lib.hid fun hk w1 hb1 => by
    rw [← hbB, ← hnn]
    exact ccheck_spec A n c rs t hw sq ep ck hs0 hs1 hc0 hc1 w1 ((hT.below hbW).below hb1) (((hr.below hbW).below hb1).ring2 hk) hbig
  have HR : Hid ((∀ k ∈ rs, k.n ≤ 200) → ∀ w1 : World, Below W.heap.size W w1 → Calls Tryd.prog 17 #[.slice A n c, .agg #[.int .i64 t.proto, .int .u32 t.src, .int .i64 t.sport, .int .u32 t.dst, .int .i64 t.dport], .int .u32 sq, .int .i64 ep, .int .u32 ck] w1 fun e w' => e = .returned (.tuple #[.int .i64 nn, .bool b]) ∧ Below w1.heap.size w1 w') := Lib.hid fun hk w1 hb1 => by
    rw [← hbB, ← hnn]
    exact rcheck_spec A n c rs t hw sq ep ck hs0 hs1 hc0 hc1 w1 ((hK.below hbW).below hb1) (((hr.below hbW).below hb1).ring2 hk) hbig
  clear hT hK hr hbB hnn BT
  go_enter Tryd.func4, Tryd.ntmps4
  go_upto_region 1 with (fail)
  rw [← hW]
  clear hW
  go_wp2_with fail
  refine HA.out.mono ?_
  rintro e w1 ⟨rfl, hb1⟩
  clear HA
  go_wp2_with fail
  refine (HS.out w1 hb1).mono ?_
  rintro e w2 ⟨q, rfl, hq, rfl⟩
  obtain ⟨a0, a1, a2, a3, a4⟩ := K5.out w1 hb1
  clear HS
  have HQ := Lib.hid hq
  clear hq
  cases q
  · go_wp2_with fail
    go_ret
    exact ⟨rfl, bel_then hbW hb1⟩
  · have HK := Lib.hid (HQ.out rfl).2
    go_wp2_with fail
    refine (HC.out HK.out w1 hb1).mono ?_
    rintro e w3 ⟨rfl, hb3⟩
    have hb3' := bel_then hb1 hb3
    obtain ⟨c0, c1, c2, c3, c4⟩ := K5.out w3 hb3'
    go_wp2_with fail
    refine (HR.out HK.out w3 hb3').mono ?_
    rintro e w4 ⟨rfl, hb4⟩
    have hb4' := bel_then hb3' hb4
    clear HC HR HQ HK K5
    go_wp2_with fail
    go_ret
    exact ⟨ret_bool (by simp), bel_then hbW hb4'⟩
end Go.Proofs.YtdnboohhplnnhaaDoor
