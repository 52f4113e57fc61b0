/- Sums of bytes: what package csum computes, over Int. No program in sight. The walks of package csum. The walks of what tcp.Put calls: two and four bytes of a row of the call's own, the options' right and length, the sum. -/
import Derived.RowKit
import Derived.Test.YtpidpbjbgjkaaaaDoorChecked
import Derived.Test.YtpidpbjbgjkaaaaDoorBase
import Derived.Test.YtpidpbjbgjkaaaaDoorJ5
import Derived.Deep.RegionHeld3
namespace Go.Proofs.YtpidpbjbgjkaaaaDoor
open Go.RowKit
set_option linter.unusedVariables false
namespace Csum
def fold (n : Int) : Int := if n = 0 then 0 else (n - 1) % 65535 + 1
/-- the words' total; p: does the next byte stand high? -/
def tot : Bool → List Int → Int
  | _, [] => 0
  | p, x :: r => (if p then 256 * x else x) + tot (!p) r
def sum (l : List Int) : Int := fold (tot true l)
theorem fold_bd {n : Int} (h : 0 ≤ n) : 0 ≤ fold n ∧ fold n ≤ 65535 := by unfold fold; split <;> omega
theorem fold_small {n : Int} (h : 0 ≤ n) (h' : n ≤ 65535) : fold n = n := by unfold fold; split <;> omega
theorem fold_fold {a b : Int} (ha : 0 ≤ a) (hb : 0 ≤ b) : fold (fold a + b) = fold (a + b) := by
  unfold fold; split <;> split <;> split <;> omega
theorem fold_step {n : Int} (h : 65536 ≤ n) : fold (n % 65536 + n / 65536) = fold n := by
  unfold fold; split <;> split <;> omega
theorem tot_append (p : Bool) (a b : List Int) : tot p (a ++ b) = tot p a + tot (p ^^ decide (a.length % 2 = 1)) b := by
  induction a generalizing p with
  | nil => simp [tot]
  | cons x r ih =>
    simp only [List.cons_append, tot, ih, List.length_cons]
    have e : (!p ^^ decide (r.length % 2 = 1)) = (p ^^ decide ((r.length + 1) % 2 = 1)) := by
      have : (r.length + 1) % 2 = 1 ↔ ¬ r.length % 2 = 1 := by omega
      simp only [this]
      cases p <;> cases h : decide (r.length % 2 = 1) <;> simp_all
    rw [e]; omega
theorem tot_nonneg (p : Bool) (l : List Int) (h : ∀ x ∈ l, 0 ≤ x ∧ x ≤ 255) : 0 ≤ tot p l ∧ tot p l ≤ 65280 * l.length := by
  induction l generalizing p with
  | nil => simp [tot]
  | cons x r ih =>
    have h1 := h x (by simp)
    have h2 := ih (!p) (fun y hy => h y (by simp [hy]))
    simp only [tot, List.length_cons]
    constructor <;> (split <;> omega)
theorem tot_snoc (l : List Int) (k : Nat) (hk : k < l.length) :
    tot true (l.take (k + 1)) = tot true (l.take k) + (if k % 2 = 0 then 256 * l.getD k 0 else l.getD k 0) := by
  rw [List.take_succ_eq_append_getElem hk, tot_append]
  have e : (l.take k).length = k := by simp; omega
  rw [e]
  have g : l.getD k 0 = l[k] := by simp [hk]
  rw [g]
  rcases Nat.mod_two_eq_zero_or_one k with h | h <;> simp [h, tot]
/-- the words of bytes -/
def words : List Int → List Int
  | [] => []
  | [x] => [256 * x]
  | x :: y :: r => (256 * x + y) :: words r
theorem words_append : ∀ (a b : List Int), a.length % 2 = 0 → words (a ++ b) = words a ++ words b
  | [], b, _ => rfl
  | [x], b, h => by simp at h
  | x :: y :: r, b, h => by
    simp only [List.cons_append, words]
    rw [words_append r b (by simp only [List.length_cons] at h; omega)]
theorem words_sum : ∀ (l : List Int), (words l).sum = tot true l
  | [] => rfl
  | [x] => by simp [words, tot]
  | x :: y :: r => by
    simp only [words, tot, List.sum_cons, words_sum r]; simp; omega
theorem words_len : ∀ (l : List Int), (words l).length = (l.length + 1) / 2
  | [] => rfl
  | [x] => by simp [words]
  | x :: y :: r => by simp only [words, List.length_cons, words_len r]; omega
theorem words_bd : ∀ (l : List Int), (∀ x ∈ l, 0 ≤ x ∧ x ≤ 255) → ∀ x ∈ words l, 0 ≤ x ∧ x ≤ 65535
  | [], _, x, hx => by simp [words] at hx
  | [y], h, x, hx => by
    have := h y (by simp)
    simp [words] at hx; omega
  | y :: z :: r, h, x, hx => by
    have h1 := h y (by simp)
    have h2 := h z (by simp)
    simp only [words, List.mem_cons] at hx
    rcases hx with rfl | hx
    · omega
    · exact words_bd r (fun a ha => h a (by simp [ha])) x hx
theorem words_take2 (l : List Int) (k : Nat) (hk : k % 2 = 0) (h : k + 1 < l.length) :
    words (l.take (k + 2)) = words (l.take k) ++ [l[k]?.getD 0 * 256 + l[k + 1]?.getD 0] := by
  have e : l.take (k + 2) = l.take k ++ [l[k], l[k + 1]] := by
    rw [List.take_succ_eq_append_getElem h, List.take_succ_eq_append_getElem (by omega), List.append_assoc]; rfl
  rw [e, words_append _ _ (by simp; omega)]
  simp [words, h, show k < l.length by omega]; omega
theorem words_take1 (l : List Int) (k : Nat) (hk : k % 2 = 0) (h : k + 1 = l.length) :
    words (l.take (k + 2)) = words (l.take k) ++ [l[k]?.getD 0 * 256] := by
  have e : l.take (k + 2) = l.take k ++ [l[k]] := by
    rw [List.take_of_length_le (by omega), ← List.take_succ_eq_append_getElem (by omega), List.take_of_length_le (by omega)]
  rw [e, words_append _ _ (by simp; omega)]
  simp [words, show k < l.length by omega]; omega
theorem sum_nonneg : ∀ (l : List Int), (∀ x ∈ l, 0 ≤ x ∧ x ≤ 65535) → 0 ≤ l.sum
  | [], _ => by simp
  | x :: r, h => by
    have := h x (by simp)
    have := sum_nonneg r (fun y hy => h y (by simp [hy]))
    simp only [List.sum_cons]; omega
theorem sum_take (l : List Int) (k : Nat) (x : Int) (h : l[k]? = some x) : (l.take (k + 1)).sum = (l.take k).sum + x := by
  obtain ⟨hk, rfl⟩ := List.getElem?_eq_some_iff.1 h
  rw [List.take_succ_eq_append_getElem hk, List.sum_append]; simp
end Csum
end Go.Proofs.YtpidpbjbgjkaaaaDoor
namespace Go.Proofs.YtpidpbjbgjkaaaaDoor
open Go.RowKit
set_option linter.unusedVariables false
attribute [local go_sem] u64_low16 u32_low16 u16_not u16_signed u64_of_u16
set_option maxHeartbeats 400000 in
theorem csum_fold (n : Int) (w : World) (h0 : 0 ≤ n) (h1 : n < 18446744073709551616) :
    Calls Tryd.prog 69 #[.int .u64 n] w fun e w' => e = .returned (.int .u16 (Csum.fold n)) ∧ w = w' := by
  go_enter Tryd.func69, Tryd.ntmps69
  go_wp2
  go_loop [0] (fun t => ∃ m : Int, 0 ≤ m ∧ m < 18446744073709551616 ∧ Hid (Csum.fold m = Csum.fold n) ∧ t = .int .u64 m) (fun t => (intOf t).toNat)
  case atStart => exact ⟨n, h0, h1, (rfl : Csum.fold n = Csum.fold n), rfl⟩
  case round =>
    obtain ⟨m, hm0, hm1, hf, rfl⟩ := hrel
    go_wp2
    · have hm : (m / 65536 != 0) = true := by assumption
      rw [bne_iff_ne] at hm
      go_round
      case rel =>
        refine ⟨m % 65536 + m / 65536, by omega, by omega, ?_, rfl⟩
        show Csum.fold _ = _
        rw [Csum.fold_step (by omega)]; exact hf.out
      case measure =>
        simp only [intOf]; omega
    · have hm : (m / 65536 != 0) = false := by assumption
      rw [bne_eq_false_iff_eq] at hm
      go_ret
      exact ⟨ret_int (by rw [← hf.out, Csum.fold_small hm0 (by omega), IntKind.wrap_u16]; omega), rfl⟩
set_option maxHeartbeats 400000 in
theorem csum_sum (A : Option Addr) (n c : Nat) (l : List Int) (w : World) (h : Rd w 1 A n (bs l)) (hb : isB l) (hn : n ≤ 140737488355328) :
    Calls Tryd.prog 57 #[.slice A n c] w fun e w' => e = .returned (.int .u16 (Csum.sum l)) ∧ w = w' := by
  have hl := h.blen
  have H := Lib.hid hl
  go_enter Tryd.func57, Tryd.ntmps57
  go_wp2
  go_loop [3, 8] (fun t i => ∃ k : Nat, k ≤ n ∧ i = .int .i64 k ∧ t = .int .u64 (Csum.tot true (l.take k))) (fun _ i => n - (intOf i).toNat)
  case atStart => exact ⟨0, Nat.zero_le _, rfl, rfl⟩
  case round =>
    obtain ⟨k, hk, rfl, rfl⟩ := hrel
    have ht := Csum.tot_nonneg true (l.take k) (fun x hx => hb x (List.mem_of_mem_take hx))
    have hlt' : (l.take k).length ≤ k := List.length_take_le _ _
    obtain ⟨ht0, ht1⟩ := ht
    by_cases hlt : k < n
    · obtain ⟨b, off, rfl, hbl, hcell⟩ := h.byte hlt
      obtain ⟨g0, g1⟩ := hb.getD k
      have hs := Csum.tot_snoc l k (by omega)
      rw [List.getD_eq_getElem?_getD] at g0 g1 hs
      have HS := Lib.hid hs
      clear hs hl h
      go_wp2
      · have hp : ((k : Int) % 2 == 0) = true := by assumption
        rw [beq_iff_eq] at hp
        go_round
        case rel => exact ⟨k + 1, by omega, by go_num, val_int (by rw [HS.out, if_pos (by omega)]; first | omega | (simp only [IntKind.wrap_u64]; omega))⟩
        case measure => simp [intOf]; omega
      · have hp : ((k : Int) % 2 == 0) = false := by assumption
        rw [beq_eq_false_iff_ne] at hp
        go_round
        case rel => exact ⟨k + 1, by omega, by go_num, val_int (by rw [HS.out, if_neg (by omega)])⟩
        case measure => simp [intOf]; omega
    · have hk' : k = n := by omega
      have hr : Csum.fold (Csum.tot true (l.take k)) = Csum.sum l := by rw [List.take_of_length_le (by omega)]; rfl
      have HR := Lib.hid hr
      clear hr hl hk' h
      go_wp2_with (go_at_call 69; refine (csum_fold _ _ (by omega) (by omega)).mono ?_; rintro e w' ⟨rfl, rfl⟩)
      go_ret
      exact ⟨ret_int HR.out, rfl⟩
set_option maxHeartbeats 400000 in
theorem csum_join (a b : Int) (w : World) (ha0 : 0 ≤ a) (ha1 : a ≤ 65535) (hb0 : 0 ≤ b) (hb1 : b ≤ 65535) :
    Calls Tryd.prog 55 #[.int .u16 a, .int .u16 b] w fun e w' => e = .returned (.int .u16 (Csum.fold (a + b))) ∧ w = w' := by
  go_enter Tryd.func55, Tryd.ntmps55
  go_wp2_with (go_at_call 69; refine (csum_fold _ _ (by omega) (by omega)).mono ?_; rintro e w' ⟨rfl, rfl⟩)
  go_ret
  exact ⟨rfl, rfl⟩
set_option maxHeartbeats 400000 in
theorem csum_pseudo (a b p q : Int) (w : World) (ha0 : 0 ≤ a) (ha1 : a ≤ 4294967295) (hb0 : 0 ≤ b) (hb1 : b ≤ 4294967295) :
    Calls Tryd.prog 56 #[.int .u32 a, .int .u32 b, .int .i64 p, .int .i64 q] w fun e w' => e = .returned (.int .u16 (Csum.fold (a / 65536 + a % 65536 + b / 65536 + b % 65536 + p % 65536 + q % 65536))) ∧ w = w' := by
  go_enter Tryd.func56, Tryd.ntmps56
  go_wp2_with (go_at_call 69; refine (csum_fold _ _ (by omega) (by omega)).mono ?_; rintro e w' ⟨rfl, rfl⟩)
  go_ret
  exact ⟨rfl, rfl⟩
/-! ### the reference -/
end Go.Proofs.YtpidpbjbgjkaaaaDoor
namespace Go.Proofs.YtpidpbjbgjkaaaaDoor
open Go.RowKit
set_option maxRecDepth 8000
set_option linter.unusedVariables false
set_option linter.unusedSimpArgs false
/-- a row of bytes of the call's own, whatever they are -/
def OwnB (w : World) (base g N cap : Nat) : Prop := ∃ l, isB l ∧ w.ownsRow base 5 1 (.slice (some ⟨g, 0, none⟩) N cap) N (bs l)
theorem isB_set {l : List Int} (h : isB l) (i : Nat) {x : Int} (h0 : 0 ≤ x) (h1 : x ≤ 255) : isB (l.set i x) := by
  intro y hy
  rcases List.mem_or_eq_of_mem_set hy with h2 | h2
  · exact h y h2
  · omega
theorem OwnB.set {w : World} {base g N cap : Nat} (h : OwnB w base g N cap) (i : Nat) {x : Int} (h0 : 0 ≤ x) (h1 : x ≤ 255) : OwnB (w.setCell ⟨g, i, none⟩ (.int .u8 x)) base g N cap ∧ w.grownBy (w.setCell ⟨g, i, none⟩ (.int .u8 x)) (some g) := by
  obtain ⟨l, hB, ho⟩ := h
  obtain ⟨o1, q1⟩ := ho.stored i (.int .u8 x)
  rw [bs_set] at o1
  exact ⟨⟨_, isB_set hB i h0 h1, o1⟩, q1⟩
theorem OwnB.setw {w : World} {base g N cap : Nat} (h : OwnB w base g N cap) (i : Nat) (x : Int) : OwnB (w.setCell ⟨g, i, none⟩ (.int .u8 (IntKind.u8.wrap x))) base g N cap ∧ w.grownBy (w.setCell ⟨g, i, none⟩ (.int .u8 (IntKind.u8.wrap x))) (some g) := by
  rw [IntKind.wrap_u8]
  exact h.set i (by omega) (by omega)
theorem OwnB.cell {w : World} {base g N cap : Nat} (h : OwnB w base g N cap) {i : Nat} (hi : i < N) : (∃ x, w.cell? ⟨g, i, none⟩ = some (.int .u8 x)) ∧ w.frozen? ⟨g, i, none⟩ = false := by
  obtain ⟨l, hB, ho⟩ := h
  have hl : l.length = N := by have := ho.1; rw [bs_len] at this; omega
  refine ⟨⟨l[i]'(by omega), ?_⟩, ho.frozenAt i⟩
  rw [ho.cellAt i (by omega), bs, List.getElem?_map, List.getElem?_eq_getElem (by omega)]
  rfl
theorem OwnB.drewN {w : World} {base g N cap : Nat} (h : OwnB w base g N cap) (k : Nat) : OwnB (w.drewN k) base g N cap := h
theorem OwnB.below {w w' : World} {base g N cap : Nat} (h : OwnB w base g N cap) (hb : Below w.heap.size w w') : OwnB w' base g N cap := by
  obtain ⟨l, hB, ho⟩ := h
  exact ⟨l, hB, own_below ho hb⟩
theorem tcp_within (n m : Int) (w : World) (h : 0 ≤ n ∧ n ≤ m) : Calls Tryd.prog 41 #[.int .i64 n, .int .i64 m] w fun e w' => e = .returned (.bool true) ∧ w = w' := by
  obtain ⟨h0, h1⟩ := h
  go_enter Tryd.func41, Tryd.ntmps41
  go_wp2_with fail
  go_ret
  exact ⟨rfl, rfl⟩
set_option maxHeartbeats 4000000 in
theorem tcp_half (g a N cap n c : Nat) (v : Int) (base : Nat) (w : World) (hown : OwnB w base g N cap) (ha : a + 2 ≤ N) (hn : 2 ≤ n) :
    Calls Tryd.prog 42 #[.slice (some ⟨g, a, none⟩) n c, .int .i64 v] w fun e w' => e = .returned (.tuple #[]) ∧ OwnB w' base g N cap ∧ w.grownBy w' (some g) := by
  obtain ⟨⟨x0, k0⟩, f0⟩ := hown.cell (i := a) (by omega)
  obtain ⟨⟨x1, k1⟩, f1⟩ := hown.cell (i := a + 1) (by omega)
  have z0 : (0 : Int) < (n : Int) := by omega
  have z1 : (1 : Int) < (n : Int) := by omega
  have HO := Lib.hid hown
  clear hown
  go_enter Tryd.func42, Tryd.ntmps42
  go_wp2_with fail
  go_end0
  obtain ⟨o1, q1⟩ := HO.out.set a (x := v / 256 % 256) (by omega) (by omega)
  obtain ⟨o2, q2⟩ := o1.set (a + 1) (x := v % 256) (by omega) (by omega)
  exact ⟨rfl, o2, grown_trans q1 q2⟩
set_option maxHeartbeats 4000000 in
theorem tcp_whole (g a N cap n c : Nat) (v : Int) (base : Nat) (w : World) (hown : OwnB w base g N cap) (ha : a + 4 ≤ N) (hn : 4 ≤ n) (hc : n ≤ c) (hc63 : c ≤ 9223372036854775807) :
    Calls Tryd.prog 43 #[.slice (some ⟨g, a, none⟩) n c, .int .u32 v] w fun e w' => e = .returned (.tuple #[]) ∧ OwnB w' base g N cap ∧ w.grownBy w' (some g) := by
  have HH := Lib.hid (fun (v : Int) (w : World) (h : OwnB w base g N cap) => tcp_half g a N cap n c v base w h (by omega) (by omega))
  have HH2 := Lib.hid (fun (v : Int) (w : World) (h : OwnB w base g N cap) => tcp_half g (a + 2) N cap (n - 2) (c - 2) v base w h (by omega) (by omega))
  have HO := Lib.hid hown
  have z2 : (2 : Int) ≤ (n : Int) := by omega
  have z3 : (2 : Int) ≤ (c : Int) := by omega
  have z4 : (n : Int) ≤ (c : Int) := by omega
  have z5 : ¬ c = 2 := by omega
  clear hown
  go_enter Tryd.func43, Tryd.ntmps43
  go_wp2_with fail
  refine (HH.out _ w HO.out).mono ?_
  rintro e w1 ⟨rfl, o1, q1⟩
  have HO1 := Lib.hid o1
  have HQ1 := Lib.hid q1
  clear o1 q1 HO HH
  go_wp2_with fail
  refine (HH2.out _ _ HO1.out).mono ?_
  rintro e w2 ⟨rfl, o2, q2⟩
  have HQ2 := Lib.hid q2
  have HO2 := Lib.hid o2
  clear o2 q2 HH2
  go_wp2_with fail
  go_end0
  exact ⟨rfl, HO2.out, grown_trans HQ1.out HQ2.out⟩
set_option maxHeartbeats 2000000 in
theorem tcp_sum (A : Option Addr) (n c : Nat) (l : List Int) (s d : Int) (w : World) (h : Rd w 1 A n (bs l)) (hb : isB l) (hn : n ≤ 140737488355328) (hs0 : 0 ≤ s) (hs1 : s ≤ 4294967295) (hd0 : 0 ≤ d) (hd1 : d ≤ 4294967295) :
    Calls Tryd.prog 44 #[.int .u32 s, .int .u32 d, .slice A n c] w fun e w' => (∃ r : Int, 0 ≤ r ∧ r ≤ 65535 ∧ e = .returned (.int .u16 r)) ∧ w = w' := by
  obtain ⟨r1, hr1⟩ : ∃ r, r = Csum.fold (s / 65536 + s % 65536 + d / 65536 + d % 65536 + 6 % 65536 + (n : Int) % 65536) := ⟨_, rfl⟩
  have HP := Lib.hid (csum_pseudo s d 6 n w hs0 hs1 hd0 hd1)
  have HS := Lib.hid (csum_sum A n c l w h hb hn)
  have hbS : 0 ≤ Csum.sum l ∧ Csum.sum l ≤ 65535 := Csum.fold_bd (Csum.tot_nonneg true l hb).1
  generalize Csum.sum l = r2 at HS hbS
  have HJ := Lib.hid (fun (a b : Int) (ha0 : 0 ≤ a) (ha1 : a ≤ 65535) (hb0 : 0 ≤ b) (hb1 : b ≤ 65535) => csum_join a b w ha0 ha1 hb0 hb1)
  clear h hb
  go_enter Tryd.func44, Tryd.ntmps44
  go_wp2_with fail
  refine HP.out.mono ?_
  rintro e w1 ⟨rfl, rfl⟩
  obtain ⟨p, hp⟩ : ∃ p, p = Csum.fold (s / 65536 + s % 65536 + d / 65536 + d % 65536 + 6 % 65536 + (n : Int) % 65536) := ⟨_, rfl⟩
  have hpb := Csum.fold_bd (n := s / 65536 + s % 65536 + d / 65536 + d % 65536 + 6 % 65536 + (n : Int) % 65536) (by omega)
  rw [← hp] at hpb
  first | rw [← hp] | skip
  clear hp hr1 r1
  go_wp2_with fail
  refine HS.out.mono ?_
  rintro e w2 ⟨rfl, rfl⟩
  go_wp2_with fail
  refine (HJ.out _ _ hpb.1 hpb.2 hbS.1 hbS.2).mono ?_
  rintro e w3 ⟨rfl, rfl⟩
  have hjb := Csum.fold_bd (n := p + r2) (by omega)
  have HJB := Lib.hid hjb
  clear hjb hpb hbS
  go_wp2_with fail
  go_ret
  exact ⟨⟨_, HJB.out.1, HJB.out.2, rfl⟩, rfl⟩
theorem tcp_known2 (w : World) : Calls Tryd.prog 65 #[.int .i64 2] w fun e w' => e = .returned (.tuple #[.slice (some ⟨w.heap.size, 0, none⟩) 1 1, .bool true]) ∧ Below w.heap.size w w' ∧ w'.cell? ⟨w.heap.size, 0, none⟩ = some (.int .i64 2) := by
  go_enter Tryd.func65, Tryd.ntmps65
  go_wp2_with fail
  go_ret2
  refine ⟨rfl, bel_a (Below.refl _ _) _, ?_⟩
  simp
theorem ints_index (g : Nat) (w : World) (h : w.cell? ⟨g, 0, none⟩ = some (.int .i64 2)) : Calls Tryd.prog 75 #[.slice (some ⟨g, 0, none⟩) 1 1, .int .i64 2] w fun e w' => e = .returned (.int .i64 0) ∧ w = w' := by
  go_enter Tryd.func75, Tryd.ntmps75
  go_wp2_with fail
  go_loopg [5, 8] 1 (fun gg _ s8 wx => 0 < gg ∧ s8 = .int .i64 0 ∧ w = wx)
  case atStart => exact ⟨by omega, rfl, rfl⟩
  case round =>
    obtain ⟨hg, rfl, rfl⟩ := hrel
    go_wp2_with fail
    go_ret
    exact ⟨rfl, rfl⟩
theorem ints_contains (g : Nat) (w : World) (h : w.cell? ⟨g, 0, none⟩ = some (.int .i64 2)) : Calls Tryd.prog 66 #[.slice (some ⟨g, 0, none⟩) 1 1, .int .i64 2] w fun e w' => e = .returned (.bool true) ∧ w = w' := by
  have HI := Lib.hid (ints_index g w h)
  clear h
  go_enter Tryd.func66, Tryd.ntmps66
  go_wp2_with fail
  refine HI.out.mono ?_
  rintro e w1 ⟨rfl, rfl⟩
  go_wp2_with fail
  go_ret
  exact ⟨rfl, rfl⟩
theorem opts_index0 (A : Option Addr) (c : Nat) (F : Value) (w : World) : Calls Tryd.prog 76 #[.slice A 0 c, F] w fun e w' => e = .returned (.int .i64 (-1)) ∧ w = w' := by
  go_enter Tryd.func76, Tryd.ntmps76
  go_wp2_with fail
  go_loopg [5, 8] 1 (fun gg _ s8 wx => 0 < gg ∧ s8 = .int .i64 0 ∧ w = wx)
  case atStart => exact ⟨by omega, rfl, rfl⟩
  case round =>
    obtain ⟨hg, rfl, rfl⟩ := hrel
    go_wp2_with fail
    go_ret
    exact ⟨rfl, rfl⟩
theorem opts_contains0 (A : Option Addr) (c : Nat) (F : Value) (w : World) : Calls Tryd.prog 67 #[.slice A 0 c, F] w fun e w' => e = .returned (.bool false) ∧ w = w' := by
  have HI := Lib.hid (opts_index0 A c F w)
  go_enter Tryd.func67, Tryd.ntmps67
  go_wp2_with fail
  refine HI.out.mono ?_
  rintro e w1 ⟨rfl, rfl⟩
  go_wp2_with fail
  go_ret
  exact ⟨rfl, rfl⟩
set_option maxHeartbeats 2000000 in
theorem tcp_right2 (A B : Option Addr) (c d : Nat) (w : World) : Calls Tryd.prog 54 #[.slice A 0 c, .agg #[.int .i64 2, .slice B 2 d]] w fun e w' => e = .returned (.bool true) ∧ Below w.heap.size w w' := by
  obtain ⟨W, hW⟩ : ∃ W, W = w.alloc (.cells #[.int .i64 2, .slice B 2 d] 62) := ⟨_, rfl⟩
  have hbW : Below w.heap.size w W := by rw [hW]; exact bel_a (Below.refl _ _) _
  have BO : BlkV W w.heap.size 62 [.int .i64 2, .slice B 2 d] := by rw [hW]; exact BlkV.new _ _ _
  have c0 := BO.cell (i := 0) rfl
  have HK := Lib.hid (tcp_known2 W)
  go_enter Tryd.func54, Tryd.ntmps54
  go_upto_region 1 with fail
  rw [← hW]
  clear hW
  go_wp2_with fail
  refine HK.out.mono ?_
  rintro e w1 ⟨rfl, hb1, hc1⟩
  have c1 := (BO.below hb1).cell (i := 1) rfl
  have HC := Lib.hid (ints_contains W.heap.size w1 hc1)
  have HF := Lib.hid (fun (F : Value) => opts_contains0 A c F w1)
  clear hc1 HK c0 BO
  go_wp2_with fail
  refine HC.out.mono ?_
  rintro e w2 ⟨rfl, rfl⟩
  clear HC
  go_wp2_with fail
  refine (HF.out _).mono ?_
  rintro e w2 ⟨rfl, rfl⟩
  go_wp2_with fail
  go_ret
  exact ⟨rfl, bel_then hbW hb1⟩
end Go.Proofs.YtpidpbjbgjkaaaaDoor
