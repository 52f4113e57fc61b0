/- The walk of casematelaw12.awake. -/
import Derived.Test.YtdboehogkmidbaaFlSF
import Derived.Deep.QuietTactic
import Derived.BigQuiet
namespace Go.Proofs.Ytdboehogkmidbaa
open Go.RowKit
set_option linter.unusedVariables false
set_option linter.unusedSimpArgs false
def Fl.f0 : Fl.F := ⟨⟨0, 1, 0, 0, 0⟩, ⟨0, 2, 0, 0, 0⟩, 5, 0⟩
theorem Fl.no_rep (n : Nat) (k : Idx.Key) : Fl.No (List.replicate n none) k := by
  rintro m ⟨i, f, h, _⟩
  have h1 := Fl.slot_lt h
  rw [Fl.slot_get h1] at h
  simp at h
theorem nodup_one {D : List Nat} (hn : D.Nodup) (h0 : 0 ∈ D) (h : ∀ i ∈ D, i = 0) : D = [0] := by
  match D, hn with
  | [], _ => cases h0
  | [a], _ => rw [h a (by simp)]
  | a :: b :: t, hn =>
    have h1 := h a (by simp)
    have h2 := h b (by simp)
    rw [List.nodup_cons] at hn
    exact absurd (by rw [h1, h2]; simp) hn.1
theorem Rd.twelve {w : World} {A : Option Addr} {n : Nat} {O : List Fl.F} (h : Rd w 12 A n (Fl.fcells O)) {j : Nat} (hj : j < n) (hO : O.length = n) :
    ∃ b off, A = some ⟨b, off, none⟩ ∧ b < w.heap.size ∧ ∀ (i : Nat) (v : Value), (O[j]'(by omega)).cells[i]? = some v → w.cell? ⟨b, off + j * 12 + i, none⟩ = some v := by
  obtain ⟨b, off, e, hb, hc⟩ := h.2 (by omega)
  refine ⟨b, off, e, hb, fun i v hv => ?_⟩
  have hs : O = O.take j ++ (O[j]'(by omega)) :: O.drop (j + 1) := by simp
  have hl : (Fl.fcells (O.take j)).length = j * 12 := by rw [Fl.fcells_len, List.length_take, Nat.min_eq_left (by omega)]
  rw [Nat.add_assoc]
  refine hc _ _ ?_
  have h2 : Fl.fcells O = Fl.fcells (O.take j) ++ ((O[j]'(by omega)).cells ++ Fl.fcells (O.drop (j + 1))) := by
    conv => lhs; rw [hs]
    unfold Fl.fcells
    rw [List.flatMap_append, List.flatMap_cons]
  rw [h2, List.getElem?_append_right (by omega), hl, show j * 12 + i - j * 12 = i by omega, List.getElem?_append_left (List.getElem?_eq_some_iff.1 hv).1]
  exact hv
set_option maxRecDepth 8000 in
set_option maxHeartbeats 8000000 in
theorem fawake_spec (w : World) : Calls Try.prog 5 #[] w fun e w' => e = .returned (.bool true) ∧ Below w.heap.size w w' := by
  have HN := Lib.hid (fnew_sf 2 w (by decide) (by decide))
  go_enter Try.func5, Try.ntmps5
  go_wp2_with fail
  refine HN.out.mono ?_
  rintro e w1 ⟨gs, rfl, hF1⟩
  obtain ⟨W, hW⟩ : ∃ W, W = w1.alloc (.cells #[.int .i64 0, .int .u32 1, .int .i64 0, .int .u32 0, .int .i64 0, .int .i64 0, .int .u32 2, .int .i64 0, .int .u32 0, .int .i64 0, .int .i64 5, .int .i64 0] 31) := ⟨_, rfl⟩
  have hbW : Below w1.heap.size w1 W := by rw [hW]; exact bel_a (Below.refl _ _) _
  have hNB : BlkV W w1.heap.size 31 [.int .i64 0, .int .u32 1, .int .i64 0, .int .u32 0, .int .i64 0, .int .i64 0, .int .u32 2, .int .i64 0, .int .u32 0, .int .i64 0, .int .i64 5, .int .i64 0] := by rw [hW]; exact BlkV.new _ _ _
  have hF := hF1.below hbW
  have hAdd := hF.add_ok Fl.f0 ⟨⟨by decide, by decide⟩, by decide, by decide⟩ ⟨⟨by decide, by decide⟩, by decide, by decide⟩ (by decide) (by decide) (by decide) (by decide) (by decide) (Fl.no_rep _ _) (Fl.no_rep _ _) (i := 0) ⟨by decide, rfl, fun j hj => absurd hj (by omega)⟩
  have HA : Hid (Calls Try.prog 7 #[.pointer (some ⟨gs, 0, none⟩), .agg #[.int .i64 0, .int .u32 1, .int .i64 0, .int .u32 0, .int .i64 0, .int .i64 0, .int .u32 2, .int .i64 0, .int .u32 0, .int .i64 0, .int .i64 5, .int .i64 0]] W fun e w' => e = .returned (.tuple #[.int .i64 0, .int .i64 0]) ∧ SF w gs [some Fl.f0, none] 0 w' ∧ FFr W w') := Lib.hid hAdd
  have HNB := Lib.hid hNB
  clear HN hF1 hF hAdd hNB hbW
  go_upto_region 3 with (fail)
  rw [← hW]
  obtain ⟨g3, hg3⟩ : ∃ g3, g3 = w1.heap.size := ⟨_, rfl⟩
  rw [← hg3] at HNB ⊢
  have HG3 := Lib.hid hg3
  clear hW hg3
  have KN : Hid (∀ w' : World, BlkV w' g3 31 [.int .i64 0, .int .u32 1, .int .i64 0, .int .u32 0, .int .i64 0, .int .i64 0, .int .u32 2, .int .i64 0, .int .u32 0, .int .i64 0, .int .i64 5, .int .i64 0] → w'.cell? ⟨g3, 0, none⟩ = some (.int .i64 0) ∧ w'.cell? ⟨g3, 1, none⟩ = some (.int .u32 1) ∧ w'.cell? ⟨g3, 2, none⟩ = some (.int .i64 0) ∧ w'.cell? ⟨g3, 3, none⟩ = some (.int .u32 0) ∧ w'.cell? ⟨g3, 4, none⟩ = some (.int .i64 0) ∧ w'.cell? ⟨g3, 5, none⟩ = some (.int .i64 0) ∧ w'.cell? ⟨g3, 6, none⟩ = some (.int .u32 2) ∧ w'.cell? ⟨g3, 7, none⟩ = some (.int .i64 0) ∧ w'.cell? ⟨g3, 8, none⟩ = some (.int .u32 0) ∧ w'.cell? ⟨g3, 9, none⟩ = some (.int .i64 0) ∧ w'.cell? ⟨g3, 10, none⟩ = some (.int .i64 5) ∧ w'.cell? ⟨g3, 11, none⟩ = some (.int .i64 0)) :=
    Lib.hid fun w' h => ⟨h.cell (i := 0) rfl, h.cell (i := 1) rfl, h.cell (i := 2) rfl, h.cell (i := 3) rfl, h.cell (i := 4) rfl, h.cell (i := 5) rfl, h.cell (i := 6) rfl, h.cell (i := 7) rfl, h.cell (i := 8) rfl, h.cell (i := 9) rfl, h.cell (i := 10) rfl, h.cell (i := 11) rfl⟩
  obtain ⟨f0, f1, f2, f3, f4, f5, f6, f7, f8, f9, f10, f11⟩ := KN.out _ HNB.out
  go_wp2_with fail
  refine HA.out.mono ?_
  rintro e w2 ⟨rfl, hF2, hfr2⟩
  have hN2 := hfr2.blk _ _ _ HNB.out (by decide) (by decide) (by decide) (by decide)
  have hfd := hF2.find (k := Fl.f0.bk) ⟨⟨by decide, by decide⟩, by decide, by decide⟩ (n := 1) ⟨0, Fl.f0, rfl, Or.inr ⟨rfl, rfl⟩⟩
  have HFd : Hid (Calls Try.prog 13 #[.pointer (some ⟨gs, 0, none⟩), .agg #[.int .i64 0, .int .u32 2, .int .i64 0, .int .u32 0, .int .i64 0]] w2 fun e w' => e = .returned (.tuple #[.int .i64 0, .bool true, .bool true]) ∧ Below w2.heap.size w2 w') := Lib.hid hfd
  have HF2 := Lib.hid hF2
  have HN2 := Lib.hid hN2
  clear f0 f1 f2 f3 f4 f5 f6 f7 f8 f9 f10 f11 HA HNB hF2 hfr2 hN2 hfd
  obtain ⟨f0, f1, f2, f3, f4, f5, f6, f7, f8, f9, f10, f11⟩ := KN.out _ HN2.out
  go_wp2_with fail
  refine HFd.out.mono ?_
  rintro e w3 ⟨rfl, hb3⟩
  have HF3 := Lib.hid (HF2.out.below hb3)
  have HN3 := Lib.hid (HN2.out.below hb3)
  have HT := Lib.hid (HF3.out.tick (t := 5) (by decide) (by decide))
  clear f0 f1 f2 f3 f4 f5 f6 f7 f8 f9 f10 f11 HFd hb3 HF2 HN2
  go_wp2_with fail
  refine HT.out.mono ?_
  rintro e w4 ⟨D, O, B, d, rfl, hR, hO, hDn, hDm, hDh, hF4, hfr4⟩
  have hD : D = [0] := by
    refine nodup_one hDn ((hDm 0 Fl.f0 rfl).2 (by decide)) (fun i hi => ?_)
    obtain ⟨f, hf⟩ := hDh i hi
    match i, hf with
    | 0, _ => rfl
    | 1, hf => cases hf
    | i + 2, hf => unfold Fl.slot at hf; simp at hf
  subst hD
  have hO1 : O = [Fl.f0] := by
    match O, hO with
    | [f], hO =>
      have : some f = some Fl.f0 := by simpa [Fl.slot] using hO
      injection this with this
      rw [this]
  subst hO1
  have hF4' : SF w gs [none, none] 5 w4 := hF4
  obtain ⟨b, off, rfl, hbs, hc⟩ := Rd.twelve (n := 1) hR (j := 0) (by decide) rfl
  have hN4 := hfr4.blk _ _ _ HN3.out (by decide) (by decide) (by decide) (by decide)
  obtain ⟨f0, f1, f2, f3, f4, f5, f6, f7, f8, f9, f10, f11⟩ := KN.out _ hN4
  have l0 : w4.cell? ⟨b, off, none⟩ = some (.int .i64 0) := hc 0 _ rfl
  have l1 : w4.cell? ⟨b, off + 1, none⟩ = some (.int .u32 1) := hc 1 _ rfl
  have l2 : w4.cell? ⟨b, off + 2, none⟩ = some (.int .i64 0) := hc 2 _ rfl
  have l3 : w4.cell? ⟨b, off + 3, none⟩ = some (.int .u32 0) := hc 3 _ rfl
  have l4 : w4.cell? ⟨b, off + 4, none⟩ = some (.int .i64 0) := hc 4 _ rfl
  have l5 : w4.cell? ⟨b, off + 5, none⟩ = some (.int .i64 0) := hc 5 _ rfl
  have l6 : w4.cell? ⟨b, off + 6, none⟩ = some (.int .u32 2) := hc 6 _ rfl
  have l7 : w4.cell? ⟨b, off + 7, none⟩ = some (.int .i64 0) := hc 7 _ rfl
  have l8 : w4.cell? ⟨b, off + 8, none⟩ = some (.int .u32 0) := hc 8 _ rfl
  have l9 : w4.cell? ⟨b, off + 9, none⟩ = some (.int .i64 0) := hc 9 _ rfl
  have l10 : w4.cell? ⟨b, off + 10, none⟩ = some (.int .i64 5) := hc 10 _ rfl
  have l11 : w4.cell? ⟨b, off + 11, none⟩ = some (.int .i64 0) := hc 11 _ rfl
  have HQ : Hid (∀ q, Calls Try.prog 9 #[.pointer (some ⟨gs, 0, none⟩)] (w4.drewN q) fun e w'' => e = .returned (.int .i64 0) ∧ ∃ m, w'' = w4.drewN m) := Lib.hid fun q => ((hF4'.below (bel_n (Below.refl _ w4) q)).len).mono (by rintro e w' ⟨rfl, rfl⟩; exact ⟨rfl, q, rfl⟩)
  have HB4 := Lib.hid hF4'.bel
  simp only [List.length_cons, List.length_nil]
  clear hR hO hDn hDm hDh hF4 hfr4 hF4' hbs hc hN4 HT HF3 HN3
  go_wp2_with fail
  go_quiet ((go_at_call 9; exact HQ.out _))
  go_wp2_with fail
  go_ret
  exact ⟨rfl, below_drewN HB4.out _⟩
end Go.Proofs.Ytdboehogkmidbaa
