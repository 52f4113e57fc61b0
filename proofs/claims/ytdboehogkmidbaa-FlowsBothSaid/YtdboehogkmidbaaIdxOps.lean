/- The walks of slices.Clone at api.Cell, index.New, Get, Put. -/
import Derived.Test.YtdboehogkmidbaaIdxRightW
import Derived.Test.YtdboehogkmidbaaIdxOwn
namespace Go.Proofs.Ytdboehogkmidbaa
open Go.RowKit
set_option linter.unusedVariables false
theorem infoC : (Try.prog.info? 82).map (fun i => (i.zero, i.size, i.bytes)) = some (some (.agg #[.bool false, .int .i64 0, .int .u32 0, .int .i64 0, .int .u32 0, .int .i64 0, .int .i64 0]), 7, 56) := by kernel_rfl
theorem one_tcells (l : List Idx.Cell) : ∀ u ∈ tcells l, u.oneCell' = true := by
  intro u hu
  simp only [tcells, List.mem_flatMap] at hu
  obtain ⟨c, _, h⟩ := hu
  simp only [Idx.Cell.cells, List.mem_cons, List.not_mem_nil, or_false] at h
  rcases h with rfl | rfl | rfl | rfl | rfl | rfl | rfl <;> rfl
set_option maxRecDepth 8000 in
set_option maxHeartbeats 1000000 in
theorem clone_spec (A : Option Addr) (n c : Nat) (l : List Idx.Cell) (w : World) (hT : TabR w A n l) (hn : n ≤ 1000000) :
    Calls Try.prog 30 #[.slice A n c] w fun e w' => ∃ A' c', e = .returned (.slice A' n c') ∧ w'.ownsRow w.heap.size 82 7 (.slice A' n c') n (tcells l) ∧ Below w.heap.size w w' := by
  have HT := Lib.hid hT
  have HR := Lib.hid hT.rd
  have hl := Lib.hid hT.len
  cases A with
  | none =>
    have h0 : n = 0 := by
      rcases Nat.eq_zero_or_pos n with h | h
      · exact h
      · obtain ⟨b, off, e, _⟩ := hT.rd.2 h
        cases e
    subst h0
    have hl0 : l = [] := List.eq_nil_of_length_eq_zero hl.out
    subst hl0
    clear hT
    have he : ∀ w : World, (binOp .eql 52 (.slice none 0 c) (.slice none 0 0)).run Try.prog w = .ok (.bool true) w := fun _ => by kernel_rfl
    go_enter Try.func30, Try.ntmps30
    go_wp2
    go_ret
    exact ⟨none, 0, rfl, ⟨rfl, .inl ⟨rfl, rfl⟩⟩, Below.refl _ _⟩
  | some ad =>
    clear hT
    have he : ∀ w : World, (binOp .eql 52 (.slice (some ad) n c) (.slice none 0 0)).run Try.prog w = .ok (.bool false) w := fun _ => by kernel_rfl
    go_enter Try.func30, Try.ntmps30
    go_wp2_with (at_builtin; refine wpList_app0 _ rfl (.tmp 5) (.tmp 6) 52 rfl w (by exact Below.refl _ _) 82 (.agg #[.bool false, .int .i64 0, .int .u32 0, .int .i64 0, .int .u32 0, .int .i64 0, .int .i64 0]) 7 56 Try.underlying52 infoC rfl (by decide) rfl (some ad) n c (tcells l) rfl (by exact HR.out) (one_tcells _) (by unfold maxLen; omega) (by omega) ?_; intro A3 c3 w3 hown3 hb3 hg3 hat3)
    go_ret
    exact ⟨A3, c3, rfl, hown3, hb3⟩
theorem made7 (n : Nat) : madeCells #[Value.bool false, .int .i64 0, .int .u32 0, .int .i64 0, .int .u32 0, .int .i64 0, .int .i64 0] (n * 7) = (tcells (List.replicate n Idx.Cell.nil)).toArray := by
  apply Array.ext'
  apply List.ext_getElem?
  intro j
  by_cases hj : j < n * 7
  · have h1 : (madeCells #[Value.bool false, .int .i64 0, .int .u32 0, .int .i64 0, .int .u32 0, .int .i64 0, .int .i64 0] (n * 7)).toList[j]? = some (#[Value.bool false, .int .i64 0, .int .u32 0, .int .i64 0, .int .u32 0, .int .i64 0, .int .i64 0][j % 7]!) := by
      simp [madeCells, hj]
    rw [h1]
    have hk : j / 7 < (List.replicate n Idx.Cell.nil).length := by simp; omega
    have hat : Idx.at' (List.replicate n Idx.Cell.nil) (j / 7) = Idx.Cell.nil := by rw [Idx.at_lt hk]; simp
    have := tcells_get (List.replicate n Idx.Cell.nil) (j / 7) (j % 7) (#[Value.bool false, .int .i64 0, .int .u32 0, .int .i64 0, .int .u32 0, .int .i64 0, .int .i64 0][j % 7]!) hk (by
      rw [hat]
      rcases (show j % 7 = 0 ∨ j % 7 = 1 ∨ j % 7 = 2 ∨ j % 7 = 3 ∨ j % 7 = 4 ∨ j % 7 = 5 ∨ j % 7 = 6 by omega) with h | h | h | h | h | h | h <;> rw [h] <;> rfl)
    rw [show j / 7 * 7 + j % 7 = j by omega] at this
    exact this.symm
  · rw [List.getElem?_eq_none (by simp [madeCells]; omega), List.getElem?_eq_none (by show (tcells _).length ≤ j; rw [tcells_len]; simp; omega)]
theorem wpList_make7 {w : World} {ops : Array Oper} {rest : List Oper} {o : Oper} {a : Act} {Q : Exit → Act → World → Prop} (hg : o.guard = none) (l c : Operand) (hop : o.op = Op.makeSlice 52 l c)
    (n : Nat) (hl : a.eval l = .int .i64 n) (hc : a.eval c = .int .i64 n) (b2 : n ≤ 1000000)
    (h : wpList Try.prog ops Q rest (a.put o.dst (.slice (some ⟨w.heap.size, 0, none⟩) n n)) (w.alloc (.cells (tcells (List.replicate n Idx.Cell.nil)).toArray 82))) : wpList Try.prog ops Q (o :: rest) a w := by
  obtain ⟨i, hi, hz, hsize, hby⟩ := info_parts infoC
  have hrun := run_make (P := Try.prog) w 52 82 i _ Try.underlying52 hi hz .i64 .i64 (n : Int) (n : Int) (Int.natCast_nonneg n) (Int.le_refl _) (by rw [hby]; show (56 : Int) * (n : Int) ≤ 281474976710656; omega) (by show (n : Int) ≤ 9223372036854775807; omega)
  have e1 : (madeCells (Value.agg #[.bool false, .int .i64 0, .int .u32 0, .int .i64 0, .int .u32 0, .int .i64 0, .int .i64 0]).cells ((n : Int).toNat * i.size)) = (tcells (List.replicate n Idx.Cell.nil)).toArray := by
    rw [hsize, Int.toNat_natCast]
    exact made7 n
  rw [e1, Int.toNat_natCast] at hrun
  refine wpList_plain hg fun K hK => ?_
  unfold Oper.wp
  simp [execOp, hop, hl, hc, hrun, Result.andThen]
  exact hK _ _ h
theorem nil_wf : Idx.Cell.nil.k.wf := ⟨⟨by decide, by decide⟩, by decide, by decide⟩
set_option maxRecDepth 8000 in
set_option maxHeartbeats 1000000 in
theorem new_yes (n : Nat) (w : World) (h : Idx.size n = true) :
    Calls Try.prog 16 #[.int .i64 n] w fun e w' => ∃ g, e = .returned (.tuple #[.slice (some ⟨g, 0, none⟩) n n, .int .i64 0]) ∧ TabR w' (some ⟨g, 0, none⟩) n (List.replicate n Idx.Cell.nil) ∧ Below w.heap.size w w' := by
  have hb := Idx.size_bd h
  have HP := Lib.hid (places_spec n w (by omega) (by omega))
  rw [h] at HP
  clear h
  have HTO : Hid (TabO (w.alloc (.cells (tcells (List.replicate n Idx.Cell.nil)).toArray 82)) w.heap.size n (List.replicate n Idx.Cell.nil) []) := Lib.hid ⟨by simp, fun c hc => by rw [List.eq_of_mem_replicate hc]; exact nil_wf, by rw [List.append_nil]; exact BlkV.new _ _ _⟩
  go_enter Try.func16, Try.ntmps16
  go_wp2_with (first | ((with_reducible refine HP.out.mono ?_); rintro e w' ⟨rfl, rfl⟩) | (refine wpList_make7 rfl (.tmp 7) (.tmp 7) rfl n rfl rfl (by omega) ?_))
  go_ret2
  exact ⟨_, rfl, HTO.out.rd, bel_al2 (Below.refl _ _) _⟩
set_option maxRecDepth 8000 in
set_option maxHeartbeats 1000000 in
theorem new_no (n : Int) (w : World) (h0 : -9223372036854775808 ≤ n) (h1 : n ≤ 9223372036854775807) (h : Idx.size n = false) :
    Calls Try.prog 16 #[.int .i64 n] w fun e w' => e = .returned (.tuple #[.slice none 0 0, .int .i64 1]) ∧ w = w' := by
  have HP := Lib.hid (places_spec n w h0 h1)
  rw [h] at HP
  clear h
  go_enter Try.func16, Try.ntmps16
  go_wp2_with ((with_reducible refine HP.out.mono ?_); rintro e w' ⟨rfl, rfl⟩)
  go_ret2
  exact ⟨rfl, rfl⟩
theorem Idx.get_no {l : List Idx.Cell} {k : Idx.Key} (h : Idx.Right l = false) : Idx.get l k = (0, false) := by unfold Idx.get; rw [h]; rfl
theorem Idx.get_yes {l : List Idx.Cell} {k : Idx.Key} {p : Nat} (h : Idx.Right l = true) (hf : Idx.fnd l k = some p) : Idx.get l k = ((Idx.at' l p).n, (Idx.at' l p).u) := by unfold Idx.get; rw [h, hf]; rfl
theorem Idx.nil_of {l : List Idx.Cell} {p : Nat} (h : Idx.Right l = true) (hp : p < l.length) (hu : (Idx.at' l p).u = false) : (Idx.at' l p).n = 0 := by
  rw [(Idx.right_iff.1 h).clean p hp hu]; rfl
set_option maxRecDepth 8000 in
set_option maxHeartbeats 4000000 in
theorem get_spec (A : Option Addr) (n c : Nat) (l : List Idx.Cell) (k : Idx.Key) (w : World) (hT : TabR w A n l) (hk : k.wf) (hn : n ≤ 9223372036854775807) :
    Calls Try.prog 26 #[.slice A n c, .agg #[.int .i64 k.pr, .int .u32 k.sr, .int .i64 k.sp, .int .u32 k.ds, .int .i64 k.dp]] w fun e w' => e = .returned (.tuple #[.int .i64 (Idx.get l k).1, .bool (Idx.get l k).2]) ∧ Below w.heap.size w w' := by
  obtain ⟨W, hW⟩ : ∃ W, W = w.alloc (.cells #[.int .i64 k.pr, .int .u32 k.sr, .int .i64 k.sp, .int .u32 k.ds, .int .i64 k.dp] 29) := ⟨_, rfl⟩
  have hbW : Below w.heap.size w W := by rw [hW]; exact (Below.refl _ _).alloc (Nat.le_refl _) _
  have K5 : Hid (∀ w' : World, Below W.heap.size W w' → w'.cell? ⟨w.heap.size, 0, none⟩ = some (.int .i64 k.pr) ∧ w'.cell? ⟨w.heap.size, 1, none⟩ = some (.int .u32 k.sr) ∧ w'.cell? ⟨w.heap.size, 2, none⟩ = some (.int .i64 k.sp) ∧ w'.cell? ⟨w.heap.size, 3, none⟩ = some (.int .u32 k.ds) ∧ w'.cell? ⟨w.heap.size, 4, none⟩ = some (.int .i64 k.dp)) := Lib.hid fun w' hb => key_c5 W k w.heap.size (by rw [hW]; exact BlkV.new _ _ _) w' hb
  have HT := Lib.hid (hT.below hbW)
  have hl := Lib.hid hT.len
  have HR := Lib.hid (iright_spec A n c l W HT.out hn)
  clear hT
  cases hr : Idx.Right l
  · have HG := Lib.hid (Idx.get_no (k := k) hr)
    rw [hr] at HR
    clear hr
    rw [HG.out]
    go_enter Try.func26, Try.ntmps26
    go_upto_region 1 with (fail)
    rw [← hW]
    clear hW
    go_wp2_with fail
    refine HR.out.mono ?_
    rintro e w2 ⟨rfl, hb2⟩
    go_wp2_with fail
    go_ret2
    exact ⟨rfl, bel_then hbW hb2⟩
  · have hG := Idx.right_iff.1 hr
    obtain ⟨p, hp⟩ := hG.found k
    have HG := Lib.hid (Idx.get_yes (k := k) hr hp)
    have hpl := (Idx.ends_of_fnd hp).1
    have HZ := Lib.hid (Idx.nil_of hr hpl)
    have hs := hG.size
    rw [hl.out] at hs hpl
    have HN := Lib.hid hs
    have HF := Lib.hid hp
    have hpz : (p : Int) < (n : Int) := by omega
    rw [hr] at HR
    clear hr hs hp hG
    rw [HG.out]
    go_enter Try.func26, Try.ntmps26
    go_upto_region 1 with (fail)
    rw [← hW]
    clear hW
    go_wp2_with fail
    refine HR.out.mono ?_
    rintro e w2 ⟨rfl, hb2⟩
    obtain ⟨c0, c1, c2, c3, c4⟩ := K5.out w2 hb2
    have HT2 := Lib.hid (HT.out.below hb2)
    have HFS := Lib.hid (find_spec A n c l k p w2 HT2.out hk HN.out HF.out)
    have HB2 := Lib.hid (bel_then hbW hb2)
    clear HR hb2 hbW K5 HT
    go_wp2_with fail
    refine HFS.out.mono ?_
    rintro e w3 ⟨rfl, hb3⟩
    obtain ⟨b, off, rfl, hbs, e0, e1, e2, e3, e4, e5, e6⟩ := (HT2.out.below hb3).seven hpl
    have HB3 := Lib.hid (bel_then HB2.out hb3)
    clear hb3 HT2 HFS c0 c1 c2 c3 c4
    generalize hx : Idx.at' l p = x at *
    have HX := Lib.hid hx
    clear hx
    obtain ⟨xu, xk, xn⟩ := x
    dsimp only at e0 e1 e2 e3 e4 e5 e6 HZ
    cases xu
    · have hz := HZ.out rfl
      subst hz
      go_wp2_with fail
      go_ret2
      exact ⟨tup_ib (by rw [HX.out]) (by rw [HX.out]), HB3.out⟩
    · go_wp2_with fail
      go_ret2
      exact ⟨tup_ib (by rw [HX.out]) (by rw [HX.out]), HB3.out⟩
end Go.Proofs.Ytdboehogkmidbaa
