/- The walk of rules.Pairs. -/
import Derived.Test.YtdocojhjknhjnaaRulesAsk
namespace Go.Proofs.Ytdocojhjknhjnaa
open Go.RowKit
set_option linter.unusedVariables false
def Rules.pairs (l : List Rules.Rule) (fr to : Int) (k : Nat) : List Nat := (List.range k).filter fun i => Rules.rightB l && Rules.zonesB l[i]! fr to
theorem Rules.pairs_len (l : List Rules.Rule) (fr to : Int) (k : Nat) : (Rules.pairs l fr to k).length ≤ k := by
  have := List.length_filter_le (fun i => Rules.rightB l && Rules.zonesB l[i]! fr to) (List.range k)
  simpa [Rules.pairs] using this
theorem Rules.pairs_succ (l : List Rules.Rule) (fr to : Int) (k : Nat) : Rules.pairs l fr to (k + 1) = Rules.pairs l fr to k ++ (if (Rules.rightB l && Rules.zonesB l[k]! fr to) = true then [k] else []) := by
  unfold Rules.pairs
  rw [List.range_succ, List.filter_append]
  congr 1
  simp only [List.filter_cons, List.filter_nil]
def Rules.nums (l : List Nat) : List Value := l.map fun (k : Nat) => .int .i64 (k : Int)
theorem Rules.nums_app (a b : List Nat) : Rules.nums (a ++ b) = Rules.nums a ++ Rules.nums b := List.map_append
theorem info_int : (Try.prog.info? 3).map (fun i => (i.zero, i.size, i.bytes)) = some (some (.int .i64 0), 1, 8) := by kernel_rfl
set_option maxHeartbeats 1000000 in
theorem pairs_spec (A : Option Addr) (n c : Nat) (l : List Rules.Rule) (fr to : Int) (w : World) (hrd : RdRow w A n l) (hn : n ≤ 4294967296) :
    Calls Try.prog 18 #[.slice A n c, .int .i64 fr, .int .i64 to] w (RetS w 3 (Rules.nums (Rules.pairs l fr to n))) := by
  obtain ⟨i0, hi, hz0, hz1, hz2⟩ := info_parts info_int
  go_enter Try.func18, Try.ntmps18
  go_wp2
  go_loopw [7, 8, 9, 12] (fun v _ _ i wr => ∃ k : Nat, k ≤ n ∧ i = .int .i64 k ∧ wr.ownsRow w.heap.size 3 1 v (Rules.pairs l fr to k).length (Rules.nums (Rules.pairs l fr to k)) ∧ Below w.heap.size w wr) (fun _ _ _ i _ => n - (intOf i).toNat)
  case atStart => exact ⟨0, by omega, rfl, by simpa [Rules.pairs, Rules.nums] using World.ownsRow_nil _ _ _ _, Below.refl _ _⟩
  case round =>
    obtain ⟨k, hk, rfl, hown, hbel⟩ := hrel
    have hpl := Rules.pairs_len l fr to k
    have hps := Rules.pairs_succ l fr to k
    have hsz := hbel.size
    by_cases hlt : k < n
    · have hltz : (k : Int) < (n : Int) := by omega
      have hrw := hrd.below hbel
      obtain ⟨b, off, rfl, l2⟩ := hrw.2.2 k hlt
      generalize l[k]! = r at l2 hps
      obtain ⟨e0, e1, e2, e3, e4, e5, e6, e7, e8, e9⟩ := l2.ten
      have hlb := l2.1
      have HP := Lib.hid hps
      clear hps l2
      have Br : RCells (wr.alloc (.cells #[.int .i64 r.fr, .int .i64 r.to, .int .i64 r.proto, .int .u32 r.src, .int .u32 r.dst, .int .i64 r.sb, .int .i64 r.db, .int .i64 r.lo, .int .i64 r.hi, .int .i64 r.act] 32)) wr.heap.size r.cells := RCells.new wr r.cells _
      have hW : Below wr.heap.size wr (wr.alloc (.cells #[.int .i64 r.fr, .int .i64 r.to, .int .i64 r.proto, .int .u32 r.src, .int .u32 r.dst, .int .i64 r.sb, .int .i64 r.db, .int .i64 r.lo, .int .i64 r.hi, .int .i64 r.act] 32)) := (Below.refl _ _).alloc (Nat.le_refl _) _
      have hright := rulesRight_spec (some ⟨b, off, none⟩) n c l _ (hrw.below hW)
      cases hq : Rules.rightB l
      · rw [hq] at hright HP
        clear hrd hrw
        go_wp2_with fail
        refine hright.mono ?_
        rintro e w2 ⟨rfl, hb2⟩
        have hb3 := bel_then hbel (bel_then hW hb2)
        have hown3 := own_below (own_below hown hW) hb2
        clear hright
        go_wp2
        go_roundw
        case rel =>
          refine ⟨k + 1, by omega, by go_num, ?_, hb3⟩
          rw [HP.out]
          simpa using hown3
        case measure => simp [intOf]; omega
      · rw [hq] at hright HP
        clear hrd hrw
        go_wp2_with fail
        refine hright.mono ?_
        rintro e w2 ⟨rfl, hb2⟩
        have hb3 := bel_then hbel (bel_then hW hb2)
        have hown3 := own_below (own_below hown hW) hb2
        obtain ⟨a0, a1, a2, a3, a4, a5, a6, a7, a8, a9⟩ := RCells.ten (Br.below hb2)
        have hz := zones_spec r fr to w2
        clear hright Br e0 e1 e2 e3 e4 e5 e6 e7 e8 e9
        cases hzb : Rules.zonesB r fr to
        · rw [hzb] at hz HP
          go_wp2_with (go_at_call 33; refine (hz).mono ?_; rintro e w3 ⟨rfl, hbz⟩)
          go_roundw
          case rel =>
            refine ⟨k + 1, by omega, by go_num, ?_, bel_then hb3 hbz⟩
            rw [HP.out]
            simpa using own_below hown3 hbz
          case measure => simp [intOf]; omega
        · rw [hzb] at hz HP
          go_wp2_with fail
          refine hz.mono ?_
          rintro e w3 ⟨rfl, hbz⟩
          have hb4 := bel_then hb3 hbz
          have hown4 := own_below hown3 hbz
          clear hz hown hown3 a0 a1 a2 a3 a4 a5 a6 a7 a8 a9
          go_wp2_with (at_builtin; refine wpList_app _ rfl (.tmp 25) (.tmp 27) 36 rfl w (by exact hb4.alloc hb4.size _) 3 (.int .i64 0) 1 8 Try.underlying36 info_int rfl (by decide) _ _ _ rfl (by exact hown4.alloc _) (some ⟨w3.heap.size, 0, none⟩) 1 1 [.int .i64 (k : Int)] rfl (by exact rd_one w3 _ _) (by simp [Value.oneCell']) (by unfold maxLen; omega) (by omega) ?_; intro A1 c1 w5 hown1 hbel1 hg1 hat1)
          go_roundw
          case rel =>
            refine ⟨k + 1, by omega, by go_num, ?_, hbel1⟩
            rw [HP.out, List.length_append, Rules.nums_app]
            exact hown1
          case measure => simp [intOf]; omega
    · have hltz : ¬ (k : Int) < (n : Int) := by omega
      have : k = n := by omega
      subst this
      obtain ⟨A', c', rfl⟩ := own_form hown
      go_wp2
      go_ret
      exact ⟨A', c', by simp [Rules.nums], by simpa [Rules.nums] using hown, hbel⟩
end Go.Proofs.Ytdocojhjknhjnaa
