/- casematelaw11's reference: find, without, When. -/
import Derived.Test.YtlibhboibkajgaaWrPlain
import Derived.Test.YtlibhboibkajgaaOrders
import Derived.Test.YtlibhboibkajgaaWhSame
namespace Go.Proofs.Ytlibhboibkajgaa
open Go.RowKit
set_option linter.unusedVariables false
set_option linter.unusedSimpArgs false
theorem Rd.al {w : World} {A : Option Addr} {n : Nat} {l : List Wh.Al} (h : Rd w 2 A n (acells l)) {i : Nat} (hi : i < n) :
    ∃ b off, A = some ⟨b, off, none⟩ ∧ b < w.heap.size ∧ w.cell? ⟨b, off + i * 2, none⟩ = some (.int .i64 (Wh.al l i).k) ∧ w.cell? ⟨b, off + i * 2 + 1, none⟩ = some (.int .i64 (Wh.al l i).t) := by
  have hn := h.1
  rw [acells_len] at hn
  obtain ⟨b, off, e, hb, hc⟩ := h.2 (by omega)
  have hg : ∀ j v, (Wh.al l i).cells[j]? = some v → w.cell? ⟨b, off + i * 2 + j, none⟩ = some v := fun j v hv => by
    rw [Nat.add_assoc]
    exact hc _ _ (acells_get l i j v (by omega) hv)
  exact ⟨b, off, e, hb, hg 0 _ rfl, hg 1 _ rfl⟩
theorem Rd.alen {w : World} {A : Option Addr} {n : Nat} {l : List Wh.Al} (h : Rd w 2 A n (acells l)) : l.length = n := by
  have hn := h.1
  rw [acells_len] at hn
  omega
theorem acells_drop (l : List Wh.Al) (n : Nat) : (acells l).drop (n * 2) = acells (l.drop n) := by
  induction n generalizing l with
  | zero => simp
  | succ n ih =>
    cases l with
    | nil => simp [acells]
    | cons x t =>
      rw [List.drop_succ_cons, ← ih t]
      have : acells (x :: t) = x.cells ++ acells t := by simp [acells]
      rw [this, show (n + 1) * 2 = x.cells.length + n * 2 by simp [Wh.Al.cells]; omega, List.drop_append, List.drop_eq_nil_of_le (Nat.le_add_right _ _), Nat.add_sub_cancel_left, List.nil_append]
theorem Rd.atake {w : World} {A : Option Addr} {n : Nat} {l : List Wh.Al} (h : Rd w 2 A n (acells l)) {m : Nat} (hm : m ≤ n) : Rd w 2 A m (acells (l.take m)) := by
  have hl := h.alen
  refine ⟨by rw [acells_len, List.length_take]; omega, fun h0 => ?_⟩
  obtain ⟨b, off, e, hb, hc⟩ := h.2 (by omega)
  refine ⟨b, off, e, hb, fun j u hu => hc j u ?_⟩
  rw [← acells_take, List.getElem?_take] at hu
  split at hu
  · exact hu
  · cases hu
/-- what stands behind a place: the walk's own spelling -/
theorem Rd.adrop {w : World} {b off n c : Nat} {l : List Wh.Al} (h : Rd w 2 (some ⟨b, off, none⟩) n (acells l)) {m : Nat} (hm : m ≤ n) (hn : n ≤ c) : Rd w 2 (if c = m then some ⟨b, off, none⟩ else some ⟨b, off + m * 2, none⟩) (n - m) (acells (l.drop m)) := by
  have hl := h.alen
  refine ⟨by rw [acells_len, List.length_drop]; omega, fun h0 => ?_⟩
  rw [if_neg (by omega)]
  obtain ⟨b', off', e, hb, hc⟩ := h.2 (by omega)
  injection e with e
  injection e with e1 e2
  subst e1 e2
  refine ⟨b, _, rfl, hb, fun j u hu => ?_⟩
  rw [← acells_drop, List.getElem?_drop] at hu
  rw [Nat.add_assoc]
  exact hc _ _ hu
/-- the reference's wheel, by value -/
def RV (w : World) (v : Value) (l : List Wh.Al) (now : Int) : Prop := ∃ A c, v = .agg #[.slice A l.length c, .int .i64 now] ∧ w.ownsRow 0 71 2 (.slice A l.length c) l.length (acells l)
def Wh.whenT (l : List Wh.Al) (k : Int) : Int := match Wh.place l k with | some i => (Wh.al l i).t | none => 0
def Wh.whenB (l : List Wh.Al) (k : Int) : Bool := (Wh.place l k).isSome
def Wh.at_ (l : List Wh.Al) (k : Int) : Int := match Wh.place l k with | some i => (i : Int) | none => -1
set_option maxHeartbeats 4000000 in
theorem rfind_spec (A : Option Addr) (n c : Nat) (now k : Int) (l : List Wh.Al) (w : World) (hR : Rd w 2 A n (acells l)) (hd : (l.map (·.k)).Nodup) (hn : n ≤ 1000) :
    Calls Try.prog 25 #[.agg #[.slice A n c, .int .i64 now], .int .i64 k] w fun e w' => e = .returned (.int .i64 (Wh.at_ l k)) ∧ Below w.heap.size w w' := by
  obtain ⟨W, hW⟩ : ∃ W, W = w.alloc (.cells #[.slice A n c, .int .i64 now] 44) := ⟨_, rfl⟩
  have hB : Below w.heap.size w W := by rw [hW]; exact (Below.refl _ _).alloc (Nat.le_refl _) _
  have hN : BlkV W w.heap.size 44 [.slice A n c, .int .i64 now] := by rw [hW]; exact BlkV.new _ _ _
  have c0 : W.cell? ⟨w.heap.size, 0, none⟩ = some (.slice A n c) := hN.cell rfl
  have hl := hR.alen
  have HW := Lib.hid hW
  have HB := Lib.hid hB
  have HR := Lib.hid (hR.below hB)
  have HD := Lib.hid hd
  have HL := Lib.hid hl
  clear hW hB hN hR hd hl
  go_enter Try.func25, Try.ntmps25
  go_wp2_with fail
  rw [← HW.out]
  go_loopg [5] (n + 1) (fun gg s5 wx => ∃ i : Nat, i ≤ n ∧ n - i < gg ∧ s5 = .int .i64 i ∧ Aside (∀ j, j < i → (Wh.al l j).k ≠ k) ∧ wx = W)
  case atStart => exact ⟨0, by omega, by omega, rfl, fun j h => absurd h (by omega), rfl⟩
  case round =>
    obtain ⟨i, hi, hg, rfl, HF, rfl⟩ := hrel
    by_cases hin : i < n
    · have hiz : (i : Int) < (n : Int) := by omega
      obtain ⟨b, off, rfl, hbs, hk, ht⟩ := HR.out.al hin
      by_cases he : (Wh.al l i).k = k
      · have HP : Hid (Wh.at_ l k = i) := Lib.hid (by unfold Wh.at_; rw [← he, Wh.place_at HD.out (by rw [HL.out]; exact hin)])
        have heb : ((Wh.al l i).k == k) = true := by simp [he]
        clear he
        go_wp2_with fail
        go_ret
        exact ⟨by rw [HP.out]; rfl, HB.out⟩
      · have heb : ((Wh.al l i).k == k) = false := by simp [he]
        have HF2 : Hid (∀ j, j < i + 1 → (Wh.al l j).k ≠ k) := Lib.hid (fun j hj => by
          by_cases e : j = i
          · rw [e]; exact he
          · exact HF.out j (by omega))
        clear he
        go_wp2_with fail
        go_roundg (gk - 1)
        case measure => omega
        case rel => exact ⟨i + 1, by omega, by omega, by go_num, HF2.out, rfl⟩
    · obtain rfl : i = n := by omega
      have HP : Hid (Wh.at_ l k = -1) := Lib.hid (by
        unfold Wh.at_
        cases hp : Wh.place l k with
        | none => rfl
        | some p =>
          obtain ⟨h1, h2⟩ := Wh.place_some hp
          exact absurd h2 (HF.out p (by rw [HL.out] at h1; exact h1)))
      clear hin
      go_wp2_with fail
      go_ret
      exact ⟨by rw [HP.out]; rfl, HB.out⟩
set_option maxHeartbeats 4000000 in
theorem rwhen_spec (A : Option Addr) (n c : Nat) (now k : Int) (l : List Wh.Al) (w : World) (hR : Rd w 2 A n (acells l)) (hd : (l.map (·.k)).Nodup) (hn : n ≤ 1000) :
    Calls Try.prog 18 #[.agg #[.slice A n c, .int .i64 now], .int .i64 k] w fun e w' =>
      e = .returned (.tuple #[.int .i64 (Wh.whenT l k), .bool (Wh.whenB l k)]) ∧ Below w.heap.size w w' := by
  obtain ⟨W, hW⟩ : ∃ W, W = w.alloc (.cells #[.slice A n c, .int .i64 now] 44) := ⟨_, rfl⟩
  have hB : Below w.heap.size w W := by rw [hW]; exact (Below.refl _ _).alloc (Nat.le_refl _) _
  have hN : BlkV W w.heap.size 44 [.slice A n c, .int .i64 now] := by rw [hW]; exact BlkV.new _ _ _
  have hl := hR.alen
  have HF := Lib.hid (rfind_spec A n c now k l W (hR.below hB) hd hn)
  have c0 : W.cell? ⟨w.heap.size, 0, none⟩ = some (.slice A n c) := hN.cell rfl
  have c1 : W.cell? ⟨w.heap.size, 1, none⟩ = some (.int .i64 now) := hN.cell rfl
  have HW := Lib.hid hW
  have HB := Lib.hid hB
  have HN := Lib.hid hN
  have HR := Lib.hid (hR.below hB)
  have HL := Lib.hid hl
  clear hW hB hN hR hd hl
  go_enter Try.func18, Try.ntmps18
  go_wp2_with fail
  rw [← HW.out]
  go_wp2_with fail
  refine HF.out.mono ?_
  rintro e w1 ⟨rfl, hb1⟩
  have c0' : w1.cell? ⟨w.heap.size, 0, none⟩ = some (.slice A n c) := (HN.out.below hb1).cell rfl
  have HB1 := Lib.hid (bel_then HB.out hb1)
  have HR1 := Lib.hid (HR.out.below hb1)
  clear hb1 c0 c1 HF
  unfold Wh.at_
  cases hp : Wh.place l k with
  | none =>
    have HP : Hid (Wh.whenT l k = 0) := Lib.hid (by unfold Wh.whenT; rw [hp])
    have HP2 : Hid (Wh.whenB l k = false) := Lib.hid (by unfold Wh.whenB; rw [hp]; rfl)
    simp only
    clear hp
    go_wp2_with fail
    go_ret2
    exact ⟨by rw [HP.out, HP2.out]; rfl, HB1.out⟩
  | some i =>
    obtain ⟨h1, _⟩ := Wh.place_some hp
    have hin : i < n := by rw [← HL.out]; exact h1
    obtain ⟨b, off, rfl, hbs, hk, ht⟩ := HR1.out.al hin
    have hiz : (i : Int) < (n : Int) := by omega
    have HP : Hid (Wh.whenT l k = (Wh.al l i).t) := Lib.hid (by unfold Wh.whenT; rw [hp])
    have HP2 : Hid (Wh.whenB l k = true) := Lib.hid (by unfold Wh.whenB; rw [hp]; rfl)
    simp only
    clear hp h1
    go_wp2_with fail
    go_ret2
    exact ⟨by rw [HP.out, HP2.out]; rfl, HB1.out⟩
end Go.Proofs.Ytlibhboibkajgaa
