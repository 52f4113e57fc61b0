/- The walks of flows.Tick, flows.All. -/
import Derived.Test.YtdboehogkmidbaaFlDrop
namespace Go.Proofs.Ytdboehogkmidbaa
open Go.RowKit
set_option linter.unusedVariables false
set_option linter.unusedSimpArgs false
def Fl.fcells (l : List Fl.F) : List Value := l.flatMap Fl.F.cells
theorem Fl.fcells_snoc (l : List Fl.F) (f : Fl.F) : Fl.fcells (l ++ [f]) = Fl.fcells l ++ f.cells := by simp [Fl.fcells]
theorem Fl.fcells_len (l : List Fl.F) : (Fl.fcells l).length = l.length * 12 := by
  induction l with
  | nil => rfl
  | cons c t ih =>
    simp only [Fl.fcells, List.flatMap_cons, List.length_append, List.length_cons] at ih ⊢
    rw [ih]
    simp [Fl.F.cells]; omega
theorem Fl.f_one (f : Fl.F) : ∀ u ∈ f.cells, u.oneCell' = true := by
  intro v hv
  unfold Fl.F.cells at hv
  simp only [List.mem_cons, List.not_mem_nil, or_false] at hv
  rcases hv with rfl | rfl | rfl | rfl | rfl | rfl | rfl | rfl | rfl | rfl | rfl | rfl <;> rfl
theorem infoF : (Try.prog.info? 31).map (fun i => (i.zero, i.size, i.bytes)) = some (some (.agg #[.int .i64 0, .int .u32 0, .int .i64 0, .int .u32 0, .int .i64 0, .int .i64 0, .int .u32 0, .int .i64 0, .int .u32 0, .int .i64 0, .int .i64 0, .int .i64 0]), 12, 96) := by kernel_rfl
theorem rd_flow (w : World) (f : Fl.F) (e : TypeId) : Rd (w.alloc (.cells #[.int .i64 f.th.pr, .int .u32 f.th.sr, .int .i64 f.th.sp, .int .u32 f.th.ds, .int .i64 f.th.dp, .int .i64 f.bk.pr, .int .u32 f.bk.sr, .int .i64 f.bk.sp, .int .u32 f.bk.ds, .int .i64 f.bk.dp, .int .i64 f.un, .int .i64 f.no] e)) 12 (some ⟨w.heap.size, 0, none⟩) 1 f.cells := by
  refine ⟨rfl, fun _ => ⟨_, _, rfl, by simp, fun j u hu => ?_⟩⟩
  rw [cell_of_row _ _ (0 + j) _ _ (0, 0) (heap_alloc_new w _)]
  simpa [Fl.F.cells] using hu
/-- the slots without some numbers -/
def Fl.clear (sl : Fl.Sl) (D : List Nat) : Fl.Sl := D.foldl (fun s i => s.set i none) sl
theorem Fl.clear_len (sl : Fl.Sl) (D : List Nat) : (Fl.clear sl D).length = sl.length := by
  induction D generalizing sl with
  | nil => rfl
  | cons i t ih => show (Fl.clear (sl.set i none) t).length = _; rw [ih]; simp
theorem Fl.clear_snoc (sl : Fl.Sl) (D : List Nat) (i : Nat) : Fl.clear sl (D ++ [i]) = (Fl.clear sl D).set i none := by simp [Fl.clear]
theorem Fl.clear_slot {sl : Fl.Sl} {D : List Nat} (h : ∀ i ∈ D, i < sl.length) (j : Nat) : Fl.slot (Fl.clear sl D) j = if j ∈ D then none else Fl.slot sl j := by
  induction D generalizing sl with
  | nil => simp [Fl.clear]
  | cons i t ih =>
    show Fl.slot (Fl.clear (sl.set i none) t) j = _
    rw [ih (fun k hk => by rw [List.length_set]; exact h k (by simp [hk])), Fl.slot_set (h i (by simp))]
    by_cases e : j = i
    · subst e; simp
    · simp [e]
/-- what Tick answers -/
def TickF (w : World) (X : FLoc) (sl : Fl.Sl) (t : Int) (e : Ending) (w' : World) : Prop :=
  ∃ (D : List Nat) (O : List Fl.F) (B : Option Addr) (d : Nat), e = .returned (.tuple #[.slice B O.length d, .int .i64 0]) ∧ Rd w' 12 B O.length (Fl.fcells O) ∧ O.map some = D.map (Fl.slot sl) ∧ D.Nodup ∧ (∀ i f, Fl.slot sl i = some f → (i ∈ D ↔ f.un ≤ t)) ∧ (∀ i ∈ D, ∃ f, Fl.slot sl i = some f) ∧ Fgo w X (Fl.clear sl D) t w'
section
variable {w w' : World} {X : FLoc} {sl : Fl.Sl} {At : Option Addr} {ct : Nat} {tb : List Idx.Cell} {c : Nat} {es : List Mi.E} {ck : Nat} {l : List Wh.Al} {now : Int} {many : Nat}
theorem FStep.grown {X' : FLoc} {wx : World} {row : Option Nat} (h : FStep w wx X X') (hg : wx.grownBy w' row) (hr : ∀ k, row = some k → w.heap.size ≤ k) : FStep w w' X X' := by
  refine ⟨h.gs, h.gl, h.gw, h.gm, h.gr, ?_⟩
  have k1 : Keeps (fun k => row = some k) wx w' := ⟨hg.os, hg.tape, hg.output, hg.size, fun k hk hn => hg.block k hk (fun e => hn e.symm)⟩
  exact h.keeps.trans k1 (fun k hk => Or.inr (hr k hk))
theorem Rd.nat {A : Option Addr} {n : Nat} {D : List Nat} (h : Rd w 1 A n (D.map (fun (i : Nat) => Value.int .i64 (i : Int)))) {k : Nat} (hk : k < D.length) :
    ∃ b off, A = some ⟨b, off, none⟩ ∧ b < w.heap.size ∧ w.cell? ⟨b, off + k, none⟩ = some (.int .i64 (D[k] : Nat)) := by
  have hn := h.1
  simp only [List.length_map, Nat.mul_one] at hn
  obtain ⟨b, off, e, hb, hc⟩ := h.2 (by omega)
  exact ⟨b, off, e, hb, hc k _ (by simp [hk])⟩
set_option maxRecDepth 8000 in
set_option maxHeartbeats 16000000 in
theorem FM.tick (h : FM w X sl now) {t : Int} (ht : now ≤ t) (ht2 : t ≤ 1099511627776) :
    Calls Try.prog 11 #[.pointer (some ⟨X.gs, 0, none⟩), .int .i64 t] w (TickF w X sl t) := by
  obtain ⟨At, ct, tb, c, es, ck, l, h1, h2⟩ := h
  obtain ⟨D, hD, hPt, hDl, hDm⟩ := h2.ticked ht
  have hT := h1.wh.tick ht ht2
  obtain ⟨r, hr⟩ : ∃ r, r = Wh.tickL (l.length + 1) l t := ⟨_, rfl⟩
  rw [← hr] at hD hPt hT
  have hks : ks r.1 = D.map (fun (i : Nat) => Value.int .i64 (i : Int)) := by
    have h3 : ks r.1 = (r.1.map (·.k)).map (Value.int .i64) := by unfold ks; rw [List.map_map]; rfl
    rw [h3, hD, List.map_map]
    rfl
  have hrl : r.1.length = D.length := by have := congrArg List.length hD; simpa using this
  have HT := Lib.hid hT
  have HM := Lib.hid h1
  have HP := Lib.hid hPt
  have HDm := Lib.hid hDm
  have HKs := Lib.hid hks
  have HRl := Lib.hid hrl
  obtain ⟨c0, c1, c2, c3⟩ := h1.cells
  clear h1 h2 hD hPt hT hr hks hrl hDm c0 c1 c3
  go_enter Try.func11, Try.ntmps11
  go_wp2_with fail
  refine HT.out.mono ?_
  rintro e w1 ⟨B1, d1, rfl, hO1, hG⟩
  obtain ⟨L', c', es', ck', hM1, hS1⟩ := HM.out.wheel hG
  rw [HRl.out] at hO1 ⊢
  rw [HKs.out] at hO1
  have HO1 := Lib.hid hO1
  have HS1 := Lib.hid hS1
  have HP1 : Hid (PM w1 { X with L := L' } sl t D) := Lib.hid ⟨_, _, _, _, _, _, _, hM1, HP.out⟩
  obtain ⟨X1, hX1⟩ : ∃ X1, X1 = { X with L := L' } := ⟨_, rfl⟩
  have hgs : X1.gs = X.gs := by rw [hX1]
  rw [← hX1] at HP1 HS1
  have HX1 := Lib.hid hgs
  have HDN := Lib.hid HP.out.dis
  have HDH := Lib.hid HP.out.has
  have HDL : Hid (∀ i ∈ D, i < sl.length) := Lib.hid fun i hi => by obtain ⟨f, hf⟩ := HDH.out i hi; exact Fl.slot_lt hf
  clear hO1 hG hM1 hS1 HT HM HP c2 hX1 hgs
  go_wp2_with fail
  go_loopg [24, 8] (D.length + 1) (fun gg s24 s8 wx => ∃ (j : Nat) (O : List Fl.F) (B : Option Addr) (d : Nat), j ≤ D.length ∧ D.length - j < gg ∧ s24 = .int .i64 j ∧ s8 = .slice B j d ∧ Aside (O.length = j) ∧ Aside (PM wx X1 (Fl.clear sl (D.take j)) t (D.drop j)) ∧ Aside (FStep w wx X X1) ∧ Aside (wx.ownsRow w.heap.size 3 1 (.slice B1 D.length d1) D.length (D.map (fun (i : Nat) => Value.int .i64 (i : Int)))) ∧ Aside (wx.ownsRow w.heap.size 31 12 (.slice B j d) j (Fl.fcells O)) ∧ Aside (O.map some = (D.take j).map (Fl.slot sl)))
  case atStart => exact ⟨0, [], none, 0, by omega, by omega, rfl, rfl, rfl, (show PM w1 X1 (Fl.clear sl (D.take 0)) t (D.drop 0) from HP1.out), HS1.out, HO1.out, ⟨rfl, Or.inl ⟨rfl, rfl⟩⟩, rfl⟩
  case round =>
    obtain ⟨j, O, B, d, hj, hg, rfl, rfl, HOl, HPx, HSx, HIx, HOx, HEx⟩ := hrel
    by_cases hjD : j < D.length
    · have hjz : (j : Int) < (D.length : Int) := by omega
      obtain ⟨b, off, hBe, hbs, hcx⟩ := (Rd.of_own HIx.out).nat hjD
      subst hBe
      obtain ⟨i, hi⟩ : ∃ i, i = D[j] := ⟨_, rfl⟩
      rw [← hi] at hcx
      obtain ⟨f, hf⟩ := HDH.out i (by rw [hi]; exact List.getElem_mem hjD)
      have hdr : D.drop j = i :: D.drop (j + 1) := by rw [hi]; exact List.drop_eq_getElem_cons hjD
      have htk : D.take (j + 1) = D.take j ++ [i] := by rw [hi, List.take_succ_eq_append_getElem hjD]
      have hnt : i ∉ D.take j := by
        intro hm
        have h3 : (D.take j ++ i :: D.drop (j + 1)).Nodup := by rw [← hdr, List.take_append_drop]; exact HDN.out
        rw [List.nodup_append] at h3
        exact h3.2.2 i hm i (by simp) rfl
      have hsl : Fl.slot (Fl.clear sl (D.take j)) i = some f := by
        rw [Fl.clear_slot (fun k hk => HDL.out k (List.mem_of_mem_take hk)), if_neg hnt]
        exact hf
      have hPx := HPx.out
      rw [hdr] at hPx
      have hF := hPx.forget hsl
      rw [HX1.out] at hF
      have HF := Lib.hid hF
      have HTk := Lib.hid htk
      have HFs := Lib.hid hf
      clear hF hPx hi hdr htk hnt hsl hf
      go_wp2_with fail
      refine HF.out.mono ?_
      rintro e w2 ⟨rfl, hP2, hS2⟩
      obtain ⟨At2, ct2, tb2, c2, es2, ck2, l2, hM2, hI2⟩ := hP2
      obtain ⟨Ax, cx, tx, cx', ex, kx, lx, hMx, _⟩ := HPx.out
      have hfr := hS2.fr hMx
      have hint := hfr.row _ _ _ _ _ _ HIx.out (by decide) (by decide) (by decide) (by decide)
      have hout := hfr.row _ _ _ _ _ _ HOx.out (by decide) (by decide) (by decide) (by decide)
      have hba : Below w2.heap.size w2 (w2.alloc (.cells #[.int .i64 f.th.pr, .int .u32 f.th.sr, .int .i64 f.th.sp, .int .u32 f.th.ds, .int .i64 f.th.dp, .int .i64 f.bk.pr, .int .u32 f.bk.sr, .int .i64 f.bk.sp, .int .u32 f.bk.ds, .int .i64 f.bk.dp, .int .i64 f.un, .int .i64 f.no] 31)) := bel_a (Below.refl _ _) _
      have HIa := Lib.hid (own_below hint hba)
      have HOa := Lib.hid (own_below hout hba)
      have HMa := Lib.hid (hM2.below hba)
      have HIn := Lib.hid hI2
      have HSa := Lib.hid ((HSx.out.trans hS2).trans (FStep.of_below X1 hba))
      have hsz := Lib.hid HSa.out.keeps.size
      clear hM2 hI2 hS2 hMx hfr hint hout hba HF hcx hbs HIx HOx HSx HPx
      go_wp2_with (at_builtin; refine wpList_appB rfl (.tmp 28) (.tmp 32) 42 rfl w.heap.size (by exact hsz.out) 31 _ 12 96 (by kernel_rfl) infoF rfl (by decide) (.slice B j d) j (Fl.fcells O) rfl (by exact HOa.out) (some ⟨w2.heap.size, 0, none⟩) 1 1 f.cells rfl (by exact rd_flow w2 f _) (Fl.f_one f) (by unfold maxLen; omega) (by omega) ?_; intro B3 d3 w4 hown4 hg4 hat4)
      rw [← Fl.fcells_snoc] at hown4
      have HO4 := Lib.hid hown4
      have HM4 := Lib.hid (HMa.out.grown HOa.out hg4 (by decide) (by decide) (by decide) (by decide) (by decide))
      have HI4 := Lib.hid (own_grown HIa.out HOa.out (by decide) hg4)
      have HS4 := Lib.hid (HSa.out.grown hg4 (fun k hk => (HOa.out.lt k hk).1))
      have HP4 : Hid (PM w4 X1 (Fl.clear sl (D.take (j + 1))) t (D.drop (j + 1))) := Lib.hid (by
        rw [HTk.out, Fl.clear_snoc]
        exact ⟨_, _, _, _, _, _, _, HM4.out, HIn.out⟩)
      have HE4 : Hid ((O ++ [f]).map some = (D.take (j + 1)).map (Fl.slot sl)) := Lib.hid (by rw [List.map_append, HEx.out, HTk.out, List.map_append]; simp [HFs.out])
      clear hown4 hat4 hg4 HMa HIa HOa HSa hsz
      go_roundg (gk - 1)
      case measure => omega
      case rel => exact ⟨j + 1, O ++ [f], B3, d3, by omega, by omega, by go_num, rfl, (by rw [List.length_append, HOl.out]; rfl), HP4.out, HS4.out, HI4.out, HO4.out, HE4.out⟩
    · obtain rfl : j = D.length := by omega
      have hPx := HPx.out
      rw [List.take_length, List.drop_length] at hPx
      have hEx := HEx.out
      rw [List.take_length] at hEx
      have HPf := Lib.hid hPx.fm
      have HEf := Lib.hid hEx
      clear hPx hEx hjD
      go_wp2_with fail
      go_ret2
      exact ⟨D, O, B, d, by rw [HOl.out]; rfl, by rw [HOl.out]; exact Rd.of_own HOx.out, HEf.out, HDN.out, HDm.out, HDH.out, X1, HPf.out, HSx.out⟩
theorem FM.tick_bad (h : FM w X sl now) {t : Int} (ht : t < now ∨ 1099511627776 < t) :
    Calls Try.prog 11 #[.pointer (some ⟨X.gs, 0, none⟩), .int .i64 t] w fun e w' => e = .returned (.tuple #[.slice none 0 0, .int .i64 1]) ∧ w = w' := by
  obtain ⟨At, ct, tb, c, es, ck, l, h1, h2⟩ := h
  have HT := Lib.hid (h1.wh.tick_bad ht)
  obtain ⟨c0, c1, c2, c3⟩ := h1.cells
  clear h1 h2 c0 c1 c3 ht
  go_enter Try.func11, Try.ntmps11
  go_wp2_with fail
  refine HT.out.mono ?_
  rintro e w1 ⟨rfl, rfl⟩
  clear HT
  go_wp2_with fail
  go_loopg [24, 8] 1 (fun gg s24 s8 wx => 0 < gg ∧ s24 = .int .i64 0 ∧ s8 = .slice none 0 0 ∧ wx = w)
  case atStart => exact ⟨by omega, rfl, rfl, rfl⟩
  case round =>
    obtain ⟨hg, rfl, rfl, rfl⟩ := hrel
    go_wp2_with fail
    go_ret2
    exact ⟨rfl, rfl⟩
end
end Go.Proofs.Ytdboehogkmidbaa
