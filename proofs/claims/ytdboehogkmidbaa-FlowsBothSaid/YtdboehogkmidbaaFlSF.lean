/- A store of flows as a test sees it: contracts over SF. -/
import Derived.Test.YtdboehogkmidbaaFlNew
namespace Go.Proofs.Ytdboehogkmidbaa
open Go.RowKit
set_option linter.unusedVariables false
set_option linter.unusedSimpArgs false
/-- the store at gs holds sl, stands at now; of w0 only new blocks are others -/
structure SF (w0 : World) (gs : Nat) (sl : Fl.Sl) (now : Int) (w : World) : Prop where
  bel : Below w0.heap.size w0 w
  fm : ∃ X, X.gs = gs ∧ FM w X sl now ∧ ∀ k, X.own k → w0.heap.size ≤ k
section
variable {w0 w w' : World} {gs : Nat} {sl sl' : Fl.Sl} {now now' : Int}
theorem SF.go {X : FLoc} (hb : Below w0.heap.size w0 w) (hg : X.gs = gs) (hX : ∀ k, X.own k → w0.heap.size ≤ k) (h : Fgo w X sl' now' w') : SF w0 gs sl' now' w' := by
  obtain ⟨X', h1, h2⟩ := h
  refine ⟨h2.keeps.below hb hX hb.size, X', h2.gs.trans hg, h1, fun k hk => ?_⟩
  rcases h2.own hk with h3 | h3
  · exact hX k h3
  · exact Nat.le_trans hb.size h3
theorem SF.below (h : SF w0 gs sl now w) (hb : Below w.heap.size w w') : SF w0 gs sl now w' := by
  obtain ⟨X, h1, h2, h3⟩ := h.fm
  exact ⟨bel_then h.bel hb, X, h1, h2.below hb, h3⟩
theorem SF.inv (h : SF w0 gs sl now w) : ∃ tb l, Fl.Inv sl tb l now := by
  obtain ⟨X, h1, ⟨At, ct, tb, c, es, ck, l, h2, h3⟩, h4⟩ := h.fm
  exact ⟨tb, l, h3⟩
theorem FFr.of_below (h : Below w.heap.size w w') : FFr w w' := ⟨fun g T vs hB _ _ _ _ => hB.below h, fun b e sz v n xs ho _ _ _ _ => own_below ho h⟩
theorem Fgo.fr {X : FLoc} (h : FM w X sl now) (hg : Fgo w X sl' now' w') : FFr w w' := by
  obtain ⟨At, ct, tb, c, es, ck, l, h1, h2⟩ := h
  obtain ⟨X', h3, h4⟩ := hg
  exact h4.fr h1
theorem fnew_sf (n : Nat) (w : World) (h1 : 1 ≤ n) (h2 : n ≤ 256) :
    Calls Try.prog 6 #[.int .i64 n] w fun e w' => ∃ gs, e = .returned (.tuple #[.pointer (some ⟨gs, 0, none⟩), .int .i64 0]) ∧ SF w gs (List.replicate n none) 0 w' := by
  refine (fnew_ok n w h1 h2).mono ?_
  rintro e w' ⟨X, rfl, h3, h4, h5⟩
  exact ⟨X.gs, rfl, h4, X, rfl, h3, h5⟩
/-- a tuple that is no flow's -/
def Fl.No (sl : Fl.Sl) (k : Idx.Key) : Prop := ∀ n, ¬ Fl.Of sl k n
theorem Fl.Inv.get_false {tb : List Idx.Cell} {l : List Wh.Al} (h : Fl.Inv sl tb l now) {k : Idx.Key} : (Idx.get tb k).2 = false ↔ Fl.No sl k := by
  constructor
  · intro h1 n ho
    rw [h.get_of ho] at h1
    cases h1
  · intro h1
    rw [h.get_no h1]
theorem SF.add_ok (h : SF w0 gs sl now w) (f : Fl.F) (hk1 : f.th.wf) (hk2 : f.bk.wf) (r1 : Idx.right f.th = true) (r2 : Idx.right f.bk = true) (hne : f.th ≠ f.bk) (hn : now < f.un) (hu : f.un ≤ 1099511627776) (n1 : Fl.No sl f.th) (n2 : Fl.No sl f.bk) {i : Nat} (hfr : Fl.Free sl i) :
    Calls Try.prog 7 #[.pointer (some ⟨gs, 0, none⟩), .agg #[.int .i64 f.th.pr, .int .u32 f.th.sr, .int .i64 f.th.sp, .int .u32 f.th.ds, .int .i64 f.th.dp, .int .i64 f.bk.pr, .int .u32 f.bk.sr, .int .i64 f.bk.sp, .int .u32 f.bk.ds, .int .i64 f.bk.dp, .int .i64 f.un, .int .i64 f.no]] w fun e w' => e = .returned (.tuple #[.int .i64 i, .int .i64 0]) ∧ SF w0 gs (sl.set i (some f)) now w' ∧ FFr w w' := by
  obtain ⟨X, h1, ⟨At, ct, tb, c, es, ck, l, h2, h3⟩, h4⟩ := h.fm
  subst h1
  have hv : Fl.mayV tb sl.length now (Fl.count sl) f = 0 := by
    have hc : Fl.count sl ≠ sl.length := by
      have h6 := Fl.count_set hfr.1 (some f)
      have h7 := Fl.count_le (sl.set i (some f))
      rw [hfr.2.1] at h6
      simp at h6 h7
      omega
    unfold Fl.mayV
    rw [if_neg, if_neg (by omega), if_neg, if_neg hc]
    · rw [h3.get_false.2 n1, h3.get_false.2 n2]; simp
    · rw [r1, r2]
      rintro (h5 | h5 | h5 | h5)
      · cases h5
      · cases h5
      · exact hne h5
      · omega
  refine (h2.add_ok h3 f hk1 hk2 hv hfr).mono ?_
  rintro e w' ⟨rfl, hg⟩
  exact ⟨rfl, SF.go h.bel rfl h4 hg, Fgo.fr ⟨_, _, _, _, _, _, _, h2, h3⟩ hg⟩
theorem SF.add_full (h : SF w0 gs sl now w) (f : Fl.F) (hk1 : f.th.wf) (hk2 : f.bk.wf) (r1 : Idx.right f.th = true) (r2 : Idx.right f.bk = true) (hne : f.th ≠ f.bk) (hn : now < f.un) (hu : f.un ≤ 1099511627776) (n1 : Fl.No sl f.th) (n2 : Fl.No sl f.bk) (hc : Fl.count sl = sl.length) :
    Calls Try.prog 7 #[.pointer (some ⟨gs, 0, none⟩), .agg #[.int .i64 f.th.pr, .int .u32 f.th.sr, .int .i64 f.th.sp, .int .u32 f.th.ds, .int .i64 f.th.dp, .int .i64 f.bk.pr, .int .u32 f.bk.sr, .int .i64 f.bk.sp, .int .u32 f.bk.ds, .int .i64 f.bk.dp, .int .i64 f.un, .int .i64 f.no]] w fun e w' => e = .returned (.tuple #[.int .i64 0, .int .i64 8]) ∧ SF w0 gs sl now w' ∧ FFr w w' := by
  obtain ⟨X, h1, ⟨At, ct, tb, c, es, ck, l, h2, h3⟩, h4⟩ := h.fm
  subst h1
  have hv : Fl.mayV tb sl.length now (Fl.count sl) f = 8 := by
    unfold Fl.mayV
    rw [if_neg, if_neg (by omega), if_neg, if_pos hc]
    · rw [h3.get_false.2 n1, h3.get_false.2 n2]; simp
    · rw [r1, r2]
      rintro (h5 | h5 | h5 | h5)
      · cases h5
      · cases h5
      · exact hne h5
      · omega
  refine (h2.add_no f hk1 hk2 hv (by decide)).mono ?_
  rintro e w' ⟨rfl, hb⟩
  exact ⟨rfl, h.below hb, FFr.of_below hb⟩
/-- Add, whatever it answers -/
theorem SF.add_any (h : SF w0 gs sl now w) (f : Fl.F) (hk1 : f.th.wf) (hk2 : f.bk.wf) :
    Calls Try.prog 7 #[.pointer (some ⟨gs, 0, none⟩), .agg #[.int .i64 f.th.pr, .int .u32 f.th.sr, .int .i64 f.th.sp, .int .u32 f.th.ds, .int .i64 f.th.dp, .int .i64 f.bk.pr, .int .u32 f.bk.sr, .int .i64 f.bk.sp, .int .u32 f.bk.ds, .int .i64 f.bk.dp, .int .i64 f.un, .int .i64 f.no]] w fun e w' => ∃ a b sl', e = .returned (.tuple #[.int .i64 a, .int .i64 b]) ∧ SF w0 gs sl' now w' ∧ sl'.length = sl.length ∧ FFr w w' := by
  obtain ⟨X, h1, ⟨At, ct, tb, c, es, ck, l, h2, h3⟩, h4⟩ := h.fm
  subst h1
  by_cases hv : Fl.mayV tb sl.length now (Fl.count sl) f = 0
  · obtain ⟨_, _, _, _, _, _, _, hc⟩ := Fl.mayV_ok hv
    obtain ⟨i, hi⟩ := Fl.free_ex (sl := sl) (by have := Fl.count_le sl; omega)
    refine (h2.add_ok h3 f hk1 hk2 hv hi).mono ?_
    rintro e w' ⟨rfl, hg⟩
    exact ⟨_, _, _, rfl, SF.go h.bel rfl h4 hg, by simp, Fgo.fr ⟨_, _, _, _, _, _, _, h2, h3⟩ hg⟩
  · refine (h2.add_no f hk1 hk2 rfl hv).mono ?_
    rintro e w' ⟨rfl, hb⟩
    exact ⟨_, _, _, rfl, h.below hb, rfl, FFr.of_below hb⟩
theorem SF.set_any (h : SF w0 gs sl now w) (num t no : Int) :
    Calls Try.prog 10 #[.pointer (some ⟨gs, 0, none⟩), .int .i64 num, .int .i64 t, .int .i64 no] w fun e w' => ∃ a sl', e = .returned (.int .i64 a) ∧ SF w0 gs sl' now w' ∧ sl'.length = sl.length ∧ FFr w w' := by
  obtain ⟨X, h1, h2, h4⟩ := h.fm
  subst h1
  by_cases hv : Fl.setE sl now num t = 0
  · unfold Fl.setE at hv
    cases hb : Fl.thereB sl num with
    | false => rw [hb] at hv; simp at hv
    | true =>
      obtain ⟨i, f, rfl, hs⟩ := Fl.thereB_some hb
      rw [hb] at hv
      simp only [Bool.true_eq_false, if_false] at hv
      have hlt : now < t ∧ t ≤ 1099511627776 := by
        split at hv
        · cases hv
        · split at hv
          · cases hv
          · omega
      refine (h2.set hs no hlt.1 hlt.2).mono ?_
      rintro e w' ⟨rfl, hg⟩
      exact ⟨_, _, rfl, SF.go h.bel rfl h4 hg, by simp, Fgo.fr h2 hg⟩
  · refine (h2.set_no no rfl hv).mono ?_
    rintro e w' ⟨rfl, rfl⟩
    exact ⟨_, _, rfl, h, rfl, FFr.of_below (Below.refl _ _)⟩
theorem SF.drop (h : SF w0 gs sl now w) {i : Nat} {f : Fl.F} (hs : Fl.slot sl i = some f) :
    Calls Try.prog 8 #[.pointer (some ⟨gs, 0, none⟩), .int .i64 i] w fun e w' => e = .returned (.tuple #[.agg #[.int .i64 f.th.pr, .int .u32 f.th.sr, .int .i64 f.th.sp, .int .u32 f.th.ds, .int .i64 f.th.dp, .int .i64 f.bk.pr, .int .u32 f.bk.sr, .int .i64 f.bk.sp, .int .u32 f.bk.ds, .int .i64 f.bk.dp, .int .i64 f.un, .int .i64 f.no], .int .i64 0]) ∧ SF w0 gs (sl.set i none) now w' ∧ FFr w w' := by
  obtain ⟨X, h1, h2, h4⟩ := h.fm
  subst h1
  refine (h2.drop hs).mono ?_
  rintro e w' ⟨rfl, hg⟩
  exact ⟨rfl, SF.go h.bel rfl h4 hg, Fgo.fr h2 hg⟩
/-- what Drop answers, whatever it is: twelve cells, a number -/
theorem SF.drop_any (h : SF w0 gs sl now w) (num : Int) :
    Calls Try.prog 8 #[.pointer (some ⟨gs, 0, none⟩), .int .i64 num] w fun e w' => ∃ (f : Fl.F) (a : Int) (sl' : Fl.Sl), e = .returned (.tuple #[.agg #[.int .i64 f.th.pr, .int .u32 f.th.sr, .int .i64 f.th.sp, .int .u32 f.th.ds, .int .i64 f.th.dp, .int .i64 f.bk.pr, .int .u32 f.bk.sr, .int .i64 f.bk.sp, .int .u32 f.bk.ds, .int .i64 f.bk.dp, .int .i64 f.un, .int .i64 f.no], .int .i64 a]) ∧ SF w0 gs sl' now w' ∧ sl'.length = sl.length ∧ FFr w w' := by
  cases hb : Fl.thereB sl num with
  | true =>
    obtain ⟨i, f, rfl, hs⟩ := Fl.thereB_some hb
    refine (h.drop hs).mono ?_
    rintro e w' ⟨rfl, hg, hfr⟩
    exact ⟨f, 0, _, rfl, hg, by simp, hfr⟩
  | false =>
    obtain ⟨X, h1, h2, h4⟩ := h.fm
    subst h1
    refine (h2.drop_no hb).mono ?_
    rintro e w' ⟨rfl, hb⟩
    exact ⟨Fl.F.nil, 9, _, rfl, h.below hb, rfl, FFr.of_below hb⟩
def STick (w0 w : World) (gs : Nat) (sl : Fl.Sl) (t : Int) (e : Ending) (w' : World) : Prop :=
  ∃ (D : List Nat) (O : List Fl.F) (B : Option Addr) (d : Nat), e = .returned (.tuple #[.slice B O.length d, .int .i64 0]) ∧ Rd w' 12 B O.length (Fl.fcells O) ∧ O.map some = D.map (Fl.slot sl) ∧ D.Nodup ∧ (∀ i f, Fl.slot sl i = some f → (i ∈ D ↔ f.un ≤ t)) ∧ (∀ i ∈ D, ∃ f, Fl.slot sl i = some f) ∧ SF w0 gs (Fl.clear sl D) t w' ∧ FFr w w'
theorem SF.tick (h : SF w0 gs sl now w) {t : Int} (ht : now ≤ t) (ht2 : t ≤ 1099511627776) :
    Calls Try.prog 11 #[.pointer (some ⟨gs, 0, none⟩), .int .i64 t] w (STick w0 w gs sl t) := by
  obtain ⟨X, h1, h2, h4⟩ := h.fm
  subst h1
  refine (h2.tick ht ht2).mono ?_
  rintro e w' ⟨D, O, B, d, rfl, a, b, c, dd, ee, hg⟩
  exact ⟨D, O, B, d, rfl, a, b, c, dd, ee, SF.go h.bel rfl h4 hg, Fgo.fr h2 hg⟩
theorem SF.tick_bad (h : SF w0 gs sl now w) {t : Int} (ht : t < now ∨ 1099511627776 < t) :
    Calls Try.prog 11 #[.pointer (some ⟨gs, 0, none⟩), .int .i64 t] w fun e w' => e = .returned (.tuple #[.slice none 0 0, .int .i64 1]) ∧ w = w' := by
  obtain ⟨X, h1, h2, h4⟩ := h.fm
  subst h1
  exact h2.tick_bad ht
theorem SF.find (h : SF w0 gs sl now w) {k : Idx.Key} (hk : k.wf) {n : Nat} (ho : Fl.Of sl k n) :
    Calls Try.prog 13 #[.pointer (some ⟨gs, 0, none⟩), .agg #[.int .i64 k.pr, .int .u32 k.sr, .int .i64 k.sp, .int .u32 k.ds, .int .i64 k.dp]] w fun e w' => e = .returned (.tuple #[.int .i64 (n / 2 : Nat), .bool ((n : Int) % 2 == 1), .bool true]) ∧ Below w.heap.size w w' := by
  obtain ⟨X, h1, ⟨At, ct, tb, c, es, ck, l, h2, h3⟩, h4⟩ := h.fm
  subst h1
  have hn : n ≤ 100000 := by
    obtain ⟨i, f, hi, hx⟩ := ho
    have h5 := Fl.slot_lt hi
    have h6 := h3.len
    rcases hx with ⟨_, hx⟩ | ⟨_, hx⟩ <;> omega
  have h5 := h2.find k hk (h3.get_of ho) (by omega) (by omega)
  refine h5.mono ?_
  rintro e w' ⟨rfl, hb⟩
  exact ⟨by simp, hb⟩
theorem SF.get (h : SF w0 gs sl now w) {i : Nat} {f : Fl.F} (hs : Fl.slot sl i = some f) :
    Calls Try.prog 14 #[.pointer (some ⟨gs, 0, none⟩), .int .i64 i] w fun e w' => e = .returned (.tuple #[.agg #[.int .i64 f.th.pr, .int .u32 f.th.sr, .int .i64 f.th.sp, .int .u32 f.th.ds, .int .i64 f.th.dp, .int .i64 f.bk.pr, .int .u32 f.bk.sr, .int .i64 f.bk.sp, .int .u32 f.bk.ds, .int .i64 f.bk.dp, .int .i64 f.un, .int .i64 f.no], .bool true]) ∧ Below w.heap.size w w' := by
  obtain ⟨X, h1, ⟨At, ct, tb, c, es, ck, l, h2, h3⟩, h4⟩ := h.fm
  subst h1
  exact h2.get hs
theorem SF.len (h : SF w0 gs sl now w) : Calls Try.prog 9 #[.pointer (some ⟨gs, 0, none⟩)] w fun e w' => e = .returned (.int .i64 (Fl.count sl)) ∧ w = w' := by
  obtain ⟨X, h1, ⟨At, ct, tb, c, es, ck, l, h2, h3⟩, h4⟩ := h.fm
  subst h1
  exact h2.len
theorem SF.all (h : SF w0 gs sl now w) : Calls Try.prog 12 #[.pointer (some ⟨gs, 0, none⟩)] w (AllR w sl) := by
  obtain ⟨X, h1, ⟨At, ct, tb, c, es, ck, l, h2, h3⟩, h4⟩ := h.fm
  subst h1
  exact h2.all
theorem SF.kwf (h : SF w0 gs sl now w) {i : Nat} {f : Fl.F} (hs : Fl.slot sl i = some f) : f.th.wf ∧ f.bk.wf := by
  obtain ⟨X, h1, ⟨At, ct, tb, c, es, ck, l, h2, h3⟩, h4⟩ := h.fm
  exact h2.kwf i f hs
end
end Go.Proofs.Ytdboehogkmidbaa
