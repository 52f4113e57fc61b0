/- The walks of tcp.Find (for the option of the scale) and of window.scale. -/
import Derived.Test.YtliibpajgdncpaaWinWalks
import Derived.Test.YtliibpajgdncpaaTcpOpen
import Derived.Lib.BufferRead
import Derived.Shelf.Abstract
import Derived.Deep.LoopGhost
namespace Go.Proofs.Ytliibpajgdncpaa
open Go.RowKit
set_option linter.unusedVariables false
theorem cell_lt {w : World} {g i : Nat} {v : Value} (h : w.cell? ⟨g, i, none⟩ = some v) : g < w.heap.size := by
  rcases Nat.lt_or_ge g w.heap.size with h1 | h1
  · exact h1
  · exfalso
    unfold World.cell? at h
    rw [Array.getElem?_eq_none h1] at h
    simp at h
/-- where the first option of the scale stands, or -1 -/
def Win.at (l : List Tcp.Opt) : Int := match l with | [] => -1 | o :: t => if o.kind = 3 then 0 else if Win.at t < 0 then -1 else 1 + Win.at t
theorem Win.at_hit : ∀ (l : List Tcp.Opt) (k : Nat) (o : Tcp.Opt), l[k]? = some o → o.kind = 3 → (∀ (j : Nat) (o' : Tcp.Opt), j < k → l[j]? = some o' → o'.kind ≠ 3) → Win.at l = k := by
  intro l
  induction l with
  | nil => intro k o h; simp at h
  | cons x t ih =>
    intro k o h hk hj
    cases k with
    | zero =>
      simp at h
      subst h
      simp [Win.at, hk]
    | succ k =>
      have hx := hj 0 x (by omega) rfl
      have := ih k o (by simpa using h) hk (fun j o' h1 h2 => hj (j + 1) o' (by omega) (by simpa using h2))
      simp only [Win.at]
      rw [if_neg hx, this, if_neg (by omega)]
      omega
theorem Win.at_none : ∀ (l : List Tcp.Opt), (∀ (j : Nat) (o' : Tcp.Opt), l[j]? = some o' → o'.kind ≠ 3) → Win.at l = -1 := by
  intro l
  induction l with
  | nil => intro _; rfl
  | cons x t ih =>
    intro hj
    have hx := hj 0 x rfl
    have := ih (fun j o' h2 => hj (j + 1) o' (by simpa using h2))
    simp only [Win.at]
    rw [if_neg hx, this, if_pos (by omega)]
/-- the scale of a first segment -/
def Win.scale (l : List Tcp.Opt) : Int := if Win.at l < 0 then -1 else match l[(Win.at l).toNat]? with | none => -1 | some o => if o.n = 1 then min (o.data.getD 0 0) 14 else -1
theorem Win.scale_bd (l : List Tcp.Opt) (h : ∀ o ∈ l, isB o.data) : -1 ≤ Win.scale l ∧ Win.scale l ≤ 14 := by
  unfold Win.scale
  split
  · omega
  split
  · omega
  rename_i o ho
  have := (h o (List.mem_of_getElem? ho)).getD 0
  split <;> omega
theorem win_info8 : (Try.prog.info? 5).map (fun i => (i.zero, i.size, i.bytes)) = some (some (.int .u8 0), 1, 1) := by kernel_rfl
set_option maxHeartbeats 400000 in
theorem win_clone (A : Option Addr) (n c : Nat) (l : List Int) (w : World) (h : Rd w 1 A n (bs l)) (hn : n ≤ 140737488355328) :
    Calls Try.prog 45 #[.slice A n c] w fun e w' => ∃ A' c', e = .returned (.slice A' n c') ∧ Rd w' 1 A' n (bs l) ∧ Below w.heap.size w w' := by
  have q := fun (W : World) => Lib.run_eql_slice_nil (P := Try.prog) W 28 5 A n c 0 0 Try.underlying28
  rcases A with _ | ad
  · have hn0 : n = 0 := by
      rcases Nat.eq_zero_or_pos n with h0 | h0
      · exact h0
      · obtain ⟨b, off, h1, _⟩ := h.2 h0; cases h1
    subst hn0
    obtain rfl : l = [] := List.eq_nil_of_length_eq_zero h.blen
    clear h
    go_enter Try.func45, Try.ntmps45
    go_wp2
    go_ret
    exact ⟨none, 0, rfl, Rd.nil_ _, Below.refl _ _⟩
  · have h := Lib.hid h
    go_enter Try.func45, Try.ntmps45
    go_wp2_with (at_builtin; refine wpList_app0 _ rfl (.tmp 5) (.tmp 6) 28 rfl w (by exact Below.refl _ _) 5 (.int .u8 0) 1 1 Try.underlying28 win_info8 rfl (by decide) rfl (some ad) n c (bs l) rfl (by exact h.out) (one_bs _) (by unfold maxLen; omega) (by omega) ?_; intro A1 c1 w2 hown1 hbel1 hg1 hat1)
    go_ret
    exact ⟨A1, c1, rfl, Rd.of_own hown1, hbel1⟩
theorem win_kind (k : Int) (A : Option Addr) (n c : Nat) (g : Nat) (w : World) (hg : w.cell? ⟨g, 0, none⟩ = some (.int .i64 3)) :
    Calls Try.prog 44 #[.agg #[.int .i64 k, .slice A n c], .pointer (some ⟨g, 0, none⟩)] w fun e w' => e = .returned (.bool (k == 3)) ∧ Below w.heap.size w w' := by
  have hlt := cell_lt hg
  go_enter Try.func44, Try.ntmps44
  go_wp2
  go_ret
  refine ⟨ret_bool ?_, by repeat (first | exact Below.refl _ _ | refine Below.alloc ?_ (by simp) _)⟩
  rfl
set_option maxHeartbeats 2000000 in
theorem win_index (A : Option Addr) (n c : Nat) (l : List Tcp.Opt) (g : Nat) (w : World) (hO : Tcp.OptsRd w A n l) (hn : n ≤ 9223372036854775807) (hg : w.cell? ⟨g, 0, none⟩ = some (.int .i64 3)) :
    Calls Try.prog 43 #[.slice A n c, .func (.func 44) #[] #[.pointer (some ⟨g, 0, none⟩)]] w fun e w' => e = .returned (.int .i64 (Win.at l)) ∧ Below w.heap.size w w' := by
  have hlt := cell_lt hg
  have hl := hO.1
  have eg : ∀ args w, (callFunc 44 args).run Try.prog w = .ok (.enter 44 args) w := enters_of Try.func44 (by kernel_rfl) rfl
  have HO := Lib.hid hO
  have HG := Lib.hid hg
  clear hO hg
  go_enter Try.func43, Try.ntmps43
  go_wp2
  go_loopg [5, 8] n (fun gg _ s8 wr => ∃ kk : Nat, kk ≤ n ∧ n - kk ≤ gg ∧ s8 = .int .i64 kk ∧ Hid (Below w.heap.size w wr) ∧ Hid (∀ (j : Nat) (o' : Tcp.Opt), j < kk → l[j]? = some o' → o'.kind ≠ 3))
  case atStart => exact ⟨0, Nat.zero_le _, by omega, rfl, Lib.hid (Below.refl _ w), Lib.hid (fun j o' hj => absurd hj (Nat.not_lt_zero _))⟩
  case round =>
    obtain ⟨kk, hkk, hgg, rfl, BW, Aq⟩ := hrel
    by_cases hlt2 : kk < n
    · have hltz : (kk : Int) < (n : Int) := by omega
      obtain ⟨b, off, rfl, hb, hc⟩ := (HO.out.below BW.out).2.2 (by omega)
      obtain ⟨o, ho⟩ : ∃ o, l[kk]? = some o := ⟨_, List.getElem?_eq_getElem (by omega)⟩
      obtain ⟨c0, c1⟩ := hc kk o ho
      have hcall := win_kind o.kind o.A o.n o.c g wr ((BW.out.cell (p := ⟨g, 0, none⟩) hlt).trans HG.out)
      have HO2 := Lib.hid ho
      clear hc ho
      by_cases hq : o.kind = 3
      · have hq2 : (o.kind == 3) = true := by simpa using hq
        rw [hq2] at hcall
        have HQ := Lib.hid hq
        clear hq hq2
        go_wp2_with (go_at_fn 44; refine hcall.mono ?_; rintro e w' ⟨rfl, hb'⟩)
        go_ret
        refine ⟨ret_int ?_, BW.out.trans (hb'.mono BW.out.size)⟩
        rw [Win.at_hit l kk o HO2.out HQ.out Aq.out]
      · have hq2 : (o.kind == 3) = false := by simpa using hq
        rw [hq2] at hcall
        have HQ := Lib.hid hq
        clear hq hq2
        go_wp2_with (go_at_fn 44; refine hcall.mono ?_; rintro e w' ⟨rfl, hb'⟩)
        go_roundg (n - (kk + 1))
        case measure => omega
        case rel =>
          refine ⟨kk + 1, by omega, by omega, by go_num, Lib.hid (BW.out.trans (hb'.mono BW.out.size)), Lib.hid (fun j o' hj hj2 => ?_)⟩
          by_cases e : j = kk
          · subst e
            rw [HO2.out] at hj2
            injection hj2 with hj2
            subst hj2
            exact HQ.out
          · exact Aq.out j o' (by omega) hj2
    · have hltz : ¬ (kk : Int) < (n : Int) := by omega
      have : kk = n := by omega
      subst this
      go_wp2
      go_ret
      refine ⟨ret_int ?_, BW.out⟩
      rw [Win.at_none l (fun j o' h2 => Aq.out j o' (by have := (List.getElem?_eq_some_iff.1 h2).1; omega) h2)]
end Go.Proofs.Ytliibpajgdncpaa
