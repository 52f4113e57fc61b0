/- Tables in memory; the walks of tuple.Right, index.places, find. -/
import Derived.Test.YtdboehogkmidbaaIdxHash
import Derived.Test.YtdboehogkmidbaaIdxPlain
namespace Go.Proofs.Ytdboehogkmidbaa
open Go.RowKit
set_option linter.unusedVariables false
def Idx.Cell.cells (c : Idx.Cell) : List Value := [.bool c.u, .int .i64 c.k.pr, .int .u32 c.k.sr, .int .i64 c.k.sp, .int .u32 c.k.ds, .int .i64 c.k.dp, .int .i64 c.n]
def tcells (l : List Idx.Cell) : List Value := l.flatMap Idx.Cell.cells
theorem tcells_len (l : List Idx.Cell) : (tcells l).length = l.length * 7 := by
  induction l with
  | nil => rfl
  | cons c t ih =>
    simp only [tcells, List.flatMap_cons, List.length_append, List.length_cons] at ih ⊢
    rw [ih]
    simp [Idx.Cell.cells]; omega
theorem tcells_get : ∀ (l : List Idx.Cell) (k i : Nat) (v : Value), k < l.length → (Idx.at' l k).cells[i]? = some v → (tcells l)[k * 7 + i]? = some v := by
  intro l
  induction l with
  | nil => intro k i v h; simp at h
  | cons r t ih =>
    intro k i v hk hv
    have hc : r.cells.length = 7 := rfl
    match k with
    | 0 =>
      have hi : i < 7 := (List.getElem?_eq_some_iff.1 hv).1
      simp only [tcells, List.flatMap_cons]
      rw [List.getElem?_append_left (by rw [hc]; omega)]
      simpa [Idx.at'] using hv
    | k + 1 =>
      simp only [tcells, List.flatMap_cons]
      rw [List.getElem?_append_right (by rw [hc]; omega), hc]
      have := ih k i v (by simpa using hk) (by simpa [Idx.at'] using hv)
      rw [show (k + 1) * 7 + i - 7 = k * 7 + i by omega]
      exact this
/-- the slice '.slice A n c' reads as the table l -/
structure TabR (w : World) (A : Option Addr) (n : Nat) (l : List Idx.Cell) : Prop where
  len : l.length = n
  wf : ∀ c ∈ l, c.k.wf
  rd : Rd w 7 A n (tcells l)
theorem TabR.below {w w' : World} {A : Option Addr} {n : Nat} {l : List Idx.Cell} (h : TabR w A n l) (hb : Below w.heap.size w w') : TabR w' A n l := ⟨h.len, h.wf, h.rd.below hb⟩
theorem TabR.keyf {w : World} {A : Option Addr} {n : Nat} {l : List Idx.Cell} (h : TabR w A n l) (k : Nat) : (Idx.at' l k).k.wf := by
  rcases Nat.lt_or_ge k l.length with h1 | h1
  · rw [Idx.at_lt h1]; exact h.wf _ (List.getElem_mem h1)
  · have : Idx.at' l k = Idx.Cell.nil := by simp [Idx.at', h1]
    rw [this]; exact ⟨⟨by decide, by decide⟩, by decide, by decide⟩
theorem TabR.seven {w : World} {A : Option Addr} {n : Nat} {l : List Idx.Cell} (h : TabR w A n l) {k : Nat} (hk : k < n) : ∃ b off, A = some ⟨b, off, none⟩ ∧ b < w.heap.size ∧
    w.cell? ⟨b, off + k * 7, none⟩ = some (.bool (Idx.at' l k).u) ∧ w.cell? ⟨b, off + k * 7 + 1, none⟩ = some (.int .i64 (Idx.at' l k).k.pr) ∧ w.cell? ⟨b, off + k * 7 + 2, none⟩ = some (.int .u32 (Idx.at' l k).k.sr) ∧ w.cell? ⟨b, off + k * 7 + 3, none⟩ = some (.int .i64 (Idx.at' l k).k.sp) ∧
    w.cell? ⟨b, off + k * 7 + 4, none⟩ = some (.int .u32 (Idx.at' l k).k.ds) ∧ w.cell? ⟨b, off + k * 7 + 5, none⟩ = some (.int .i64 (Idx.at' l k).k.dp) ∧ w.cell? ⟨b, off + k * 7 + 6, none⟩ = some (.int .i64 (Idx.at' l k).n) := by
  obtain ⟨b, off, e, hb, hc⟩ := h.rd.2 (by omega)
  have hg : ∀ i v, (Idx.at' l k).cells[i]? = some v → w.cell? ⟨b, off + k * 7 + i, none⟩ = some v := fun i v hv => by
    have := hc (k * 7 + i) v (tcells_get l k i v (by rw [h.len]; exact hk) hv)
    rw [← Nat.add_assoc] at this
    exact this
  exact ⟨b, off, e, hb, hg 0 _ rfl, hg 1 _ rfl, hg 2 _ rfl, hg 3 _ rfl, hg 4 _ rfl, hg 5 _ rfl, hg 6 _ rfl⟩
set_option maxRecDepth 8000 in
set_option maxHeartbeats 1000000 in
theorem tright_spec (k : Idx.Key) (w : World) : Calls Try.prog 15 #[.agg #[.int .i64 k.pr, .int .u32 k.sr, .int .i64 k.sp, .int .u32 k.ds, .int .i64 k.dp]] w fun e w' => e = .returned (.bool (Idx.right k)) ∧ Below w.heap.size w w' := by
  obtain ⟨W, hW⟩ : ∃ W, W = w.alloc (.cells #[.int .i64 k.pr, .int .u32 k.sr, .int .i64 k.sp, .int .u32 k.ds, .int .i64 k.dp] 29) := ⟨_, rfl⟩
  have hbW : Below w.heap.size w W := by rw [hW]; exact (Below.refl _ _).alloc (Nat.le_refl _) _
  obtain ⟨c0, c1, c2, c3, c4⟩ := key_c5 W k w.heap.size (by rw [hW]; exact BlkV.new _ _ _) W (Below.refl _ _)
  go_enter Try.func15, Try.ntmps15
  go_upto_region 1 with (fail)
  rw [← hW]
  clear hW
  go_wp2_with (go_at_call 27; refine (tport_spec _ _).mono ?_; rintro e w' ⟨rfl, rfl⟩)
  all_goals
    go_ret
    exact ⟨ret_bool (by unfold Idx.right; rw [Bool.eq_iff_iff]; first | (simp_all; done) | (simp_all <;> omega)), hbW⟩
theorem Idx.size_and : ∀ m : Fin 1025, 2 ≤ m.val → (Go.bits .and .i64 (m.val : Int) ((m.val : Int) - 1) == 0) = Idx.size (m.val : Int) := by decide +kernel
theorem Idx.size_bits {n : Int} (h2 : 2 ≤ n) (h3 : n ≤ 1024) : (Go.bits .and .i64 n (n - 1) == 0) = Idx.size n := by
  have := Idx.size_and ⟨n.toNat, by omega⟩ (by show 2 ≤ n.toNat; omega)
  rw [show ((n.toNat : Nat) : Int) = n by omega] at this
  exact this
theorem Idx.size_bd {n : Int} (h : Idx.size n = true) : 2 ≤ n ∧ n ≤ 1024 := by
  unfold Idx.size at h
  rw [decide_eq_true_eq] at h
  omega
set_option maxRecDepth 8000 in
set_option maxHeartbeats 1000000 in
theorem places_spec (n : Int) (w : World) (h0 : -9223372036854775808 ≤ n) (h1 : n ≤ 9223372036854775807) : Calls Try.prog 28 #[.int .i64 n] w fun e w' => e = .returned (.bool (Idx.size n)) ∧ w = w' := by
  by_cases hr : 2 ≤ n ∧ n ≤ 1024
  · have HS := Lib.hid (Idx.size_bits hr.1 hr.2)
    obtain ⟨h2, h3⟩ := hr
    go_enter Try.func28, Try.ntmps28
    go_wp2
    all_goals
      go_ret
      exact ⟨ret_bool (by first | (rw [← HS.out]; done) | (rw [← HS.out]; simp_all)), rfl⟩
  · have HS : Hid (Idx.size n = false) := Lib.hid (by
      cases hs : Idx.size n
      · rfl
      · exact absurd (Idx.size_bd hs) hr)
    go_enter Try.func28, Try.ntmps28
    go_wp2
    all_goals
      go_ret
      exact ⟨ret_bool (by first | (rw [HS.out]; done) | (rw [HS.out]; simp; done) | (rw [HS.out]; simp; omega)), rfl⟩
end Go.Proofs.Ytdboehogkmidbaa
