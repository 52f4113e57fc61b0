/- casematelaw11's reference: without, Drop. -/
import Derived.Test.YtlibhboibkajgaaWrRef
namespace Go.Proofs.Ytlibhboibkajgaa
open Go.RowKit
set_option linter.unusedVariables false
set_option linter.unusedSimpArgs false
theorem step_appb {P : Program} {w : World} {ops : Array Oper} {o : Oper} {a : Act} {K : Act → World → Prop} {E : Prop} (hw : Region.wanted o (yielded ops a.tmps) = true) (s x : Operand) (t : TypeId)
    {Q : Exit → Act → World → Prop}
    (ho : o.op = .call { callee := .builtin .append, args := #[s, x], argTypes := #[t, t] })
    (a0 : World) (hbel : Below a0.heap.size a0 w) (e : TypeId) (z : Value) (size bytes : Nat) (ht : P.underlying t = some (.slice e))
    (hinfo : (P.info? e).map (fun i => (i.zero, i.size, i.bytes)) = some (some z, size, bytes)) (hzs : z.cells.size = size) (hsz : 0 < size)
    (v : Value) (n : Nat) (xs : List Value) (hs : a.eval s = v) (hown : w.ownsRow a0.heap.size e size v n xs)
    (A : Option Addr) (m c : Nat) (news : List Value) (hx : a.eval x = .slice A m c) (hr : Rd w size A m news) (h1 : ∀ u ∈ news, u.oneCell' = true)
    (h63 : n + m ≤ maxLen) (hbytes : (n + m) * bytes ≤ 140737488355328)
    (h : ∀ A' c' w', w'.ownsRow a0.heap.size e size (.slice A' (n + m) c') (n + m) (xs ++ news) → Below a0.heap.size a0 w' → K (a.put o.dst (.slice A' (n + m) c')) w') :
    if Region.wanted o (yielded ops a.tmps) = true then Oper.wp P o a w K Q else E := by
  rw [if_pos hw]
  obtain ⟨i, hi, hz, hsize, hby⟩ := info_parts hinfo
  obtain ⟨A', c', w', hrun, h2, h3, h4⟩ := run_append_rd (P := P) w a0.heap.size t o.type e i z size bytes ht hi hz hsize hby hzs hsz _ n xs hown A m c news hr h1 h63 hbytes hbel.size
  unfold Oper.wp execOp
  simp only [ho, resolve, invoke, builtin, Sem.run_bind, Sem.run_pure, Result.andThen_ok, List.map_toArray, List.map_cons, List.map_nil, hs, hx, hrun]
  exact h A' c' w' h2 (hbel.grown h3 hbel.size (fun g hg => (hown.lt g hg).1))
theorem infoR : (Try.prog.info? 71).map (fun i => (i.zero, i.size, i.bytes)) = some (some (.agg #[.int .i64 0, .int .i64 0]), 2, 16) := by kernel_rfl
theorem one_als (l : List Wh.Al) : ∀ u ∈ acells l, u.oneCell' = true := by
  intro u hu
  obtain ⟨x, _, hu⟩ := List.mem_flatMap.1 hu
  simp only [Wh.Al.cells, List.mem_cons, List.not_mem_nil, or_false] at hu
  rcases hu with rfl | rfl <;> rfl
theorem own_lit1 {w0 w : World} (e : TypeId) (size g : Nat) (hb : w.heap.size ≤ w0.heap.size) (hg : g = w0.heap.size) : (w0.alloc (.cells #[] e)).ownsRow w.heap.size e size (.slice (some ⟨g, 0, none⟩) 0 0) 0 [] := by
  subst hg
  have := World.ownsRow_lit (base := w.heap.size) (e := e) (size := size) w0 #[] 0 hb (Nat.zero_le _) (by simp)
  simpa using this
/-- what a call answers that makes a wheel of the reference -/
def RRet (w : World) (l : List Wh.Al) (now : Int) (e : Ending) (w' : World) : Prop := ∃ A c, e = .returned (.agg #[.slice A l.length c, .int .i64 now]) ∧ w'.ownsRow w.heap.size 71 2 (.slice A l.length c) l.length (acells l) ∧ Below w.heap.size w w'
theorem own_c {w : World} {b n sz c : Nat} {e : TypeId} {A : Option Addr} {xs : List Value} (h : w.ownsRow b e sz (.slice A n c) n xs) : n ≤ c ∧ c ≤ 9223372036854775807 := by
  rcases h.2 with ⟨hv, h0⟩ | ⟨g, cap, cur, hv, hb, hg, h1, h2, _⟩
  · injection hv with _ h1 h2
    subst h1 h2
    exact ⟨Nat.le_refl _, by omega⟩
  · injection hv with _ h3 h4
    subst h4
    unfold maxLen at h2
    exact ⟨h1, h2⟩
set_option maxHeartbeats 8000000 in
theorem rwo_spec (A : Option Addr) (n c : Nat) (now : Int) (i : Nat) (l : List Wh.Al) (w : World) (hR : Rd w 2 A n (acells l)) (hi : i < n) (hc : n ≤ c) (hcc : c ≤ 9223372036854775807) (hn : n ≤ 1000) :
    Calls Try.prog 26 #[.agg #[.slice A n c, .int .i64 now], .int .i64 i] w (RRet w (Wh.cut l i) now) := by
  obtain ⟨b, off, rfl, hbs, _⟩ := hR.al hi
  have hl := hR.alen
  obtain ⟨V, hV⟩ : ∃ V, V = (w.alloc (.cells #[.slice (some ⟨b, off, none⟩) n c, .int .i64 now] 44)).alloc (.cells #[.slice none 0 0, .int .i64 0] 44) := ⟨_, rfl⟩
  have aV : Below w.heap.size w V := by rw [hV]; exact bel_a (bel_a (Below.refl _ _) _) _
  have hN : BlkV V w.heap.size 44 [.slice (some ⟨b, off, none⟩) n c, .int .i64 now] := by rw [hV]; exact (BlkV.new _ _ _).alloc _
  have hM : BlkV V (w.heap.size + 1) 44 [.slice none 0 0, .int .i64 0] := by rw [hV]; exact BlkV.new_at _ _ _ (by simp)
  have hz : V.heap.size = w.heap.size + 2 := by rw [hV]; simp
  have c0 : V.drew.cell? ⟨w.heap.size, 0, none⟩ = some (.slice (some ⟨b, off, none⟩) n c) := hN.cell rfl
  obtain ⟨A2, hA2⟩ : ∃ A2, A2 = (if c = i + 1 then some ⟨b, off, none⟩ else some ⟨b, off + (i + 1) * 2, none⟩ : Option Addr) := ⟨_, rfl⟩
  have R1 := (hR.below aV).atake (m := i) (by omega)
  have R2 := (hR.below aV).adrop (m := i + 1) (by omega) hc
  rw [← hA2] at R2
  have HV := Lib.hid hV
  have HB := Lib.hid aV
  have HN := Lib.hid hN
  have HM := Lib.hid hM
  have HZ := Lib.hid hz
  have HA2 := Lib.hid hA2
  have HR1 := Lib.hid R1
  have HR2 := Lib.hid R2
  have HLc : Hid ((Wh.cut l i).length = n - 1) := Lib.hid (by rw [Wh.cut_len (by omega)]; omega)
  have hw1 : IntKind.i64.wrap ((i : Int) + 1) = (i : Int) + 1 := IntWalk.i64_in _ (by omega)
  have hiz : (i : Int) ≤ (c : Int) := by omega
  have hiz2 : (i : Int) + 1 ≤ (n : Int) := by omega
  have hiz4 : 0 ≤ (i : Int) + 1 := by omega
  have hiz3 : (i : Int) + 1 ≤ (c : Int) := by omega
  clear hV aV hN hM hz hA2 R1 R2 hR hl
  go_enter Try.func26, Try.ntmps26
  go_wp2_with fail
  rw [← HV.out]
  refine wp_region_X (S := fun w' => w'.cell? ⟨w.heap.size, 0, none⟩ = some (.slice (some ⟨b, off, none⟩) n c)) 13 (by kernel_rfl) c0 (fun hHeld => ?_)
  clear c0
  refine wpAnyX_takeD (i := 1) (some 6) (v := ?_) rfl rfl (by kernel_rfl) (by kernel_rfl) (by kernel_rfl) (by kernel_rfl) (fun _ _ _ h => h) (Or.inl ⟨by rfl, ?_⟩) (by assumption) ?_
  rotate_left
  · (intro w hSw; (try dsimp only at hSw); go_simp; try with_reducible rfl)
  try simp only [Act.put, List.setIfInBounds_toArray, List.set_cons_zero, List.set_cons_succ]
  refine wpAnyX_takeD (i := 2) (some 7) (v := ?_) rfl rfl (by kernel_rfl) (by kernel_rfl) (by kernel_rfl) (by kernel_rfl) (fun _ _ _ h => h) (Or.inl ⟨by rfl, ?_⟩) (by assumption) ?_
  rotate_left
  · (intro w hSw; (try dsimp only at hSw); go_simp; try with_reducible rfl)
  try simp only [Act.put, List.setIfInBounds_toArray, List.set_cons_zero, List.set_cons_succ]
  refine wpAnyX_takeD (i := 3) (some 8) (v := ?_) rfl rfl (by kernel_rfl) (by kernel_rfl) (by kernel_rfl) (by kernel_rfl) (fun _ _ _ h => h) (Or.inl ⟨by rfl, ?_⟩) (by assumption) ?_
  rotate_left
  · (intro w hSw; (try dsimp only at hSw); go_simp; try with_reducible rfl)
  try simp only [Act.put, List.setIfInBounds_toArray, List.set_cons_zero, List.set_cons_succ]
  refine wpAnyX_takeD (i := 4) (some 9) (v := ?_) rfl rfl (by kernel_rfl) (by kernel_rfl) (by kernel_rfl) (by kernel_rfl) (fun _ _ _ h => h) (Or.inl ⟨by rfl, ?_⟩) (by assumption) ?_
  rotate_left
  · (intro w hSw; (try dsimp only at hSw); go_simp; try with_reducible rfl)
  try simp only [Act.put, List.setIfInBounds_toArray, List.set_cons_zero, List.set_cons_succ]
  refine wpAnyX_takeD (i := 6) (some 11) (v := ?_) rfl rfl (by kernel_rfl) (by kernel_rfl) (by kernel_rfl) (by kernel_rfl) (fun _ _ _ h => h) (Or.inl ⟨by rfl, ?_⟩) (by assumption) ?_
  rotate_left
  · (intro w hSw; (try dsimp only at hSw); go_simp; try with_reducible rfl)
  try simp only [Act.put, List.setIfInBounds_toArray, List.set_cons_zero, List.set_cons_succ]
  refine wpAnyX_takeD (i := 7) (some 12) (v := ?_) rfl rfl (by kernel_rfl) (by kernel_rfl) (by kernel_rfl) (by kernel_rfl) (fun _ _ _ h => h) (Or.inl ⟨by rfl, ?_⟩) (by assumption) ?_
  rotate_left
  · (intro w hSw; (try dsimp only at hSw); go_simp; try with_reducible rfl)
  try simp only [Act.put, List.setIfInBounds_toArray, List.set_cons_zero, List.set_cons_succ]
  refine wpAnyX_takeD (i := 8) (some 13) (v := ?_) rfl rfl (by kernel_rfl) (by kernel_rfl) (by kernel_rfl) (by kernel_rfl) (fun _ _ _ h => h) (Or.inl ⟨by rfl, ?_⟩) (by assumption) ?_
  rotate_left
  · (intro w hSw; (try dsimp only at hSw); go_simp; try with_reducible rfl)
  try simp only [Act.put, List.setIfInBounds_toArray, List.set_cons_zero, List.set_cons_succ]
  refine wpAnyX_takeD (i := 9) (some 14) (v := ?_) rfl rfl (by kernel_rfl) (by kernel_rfl) (by kernel_rfl) (by kernel_rfl) (fun _ _ _ h => h) (Or.inl ⟨by rfl, ?_⟩) (by assumption) ?_
  rotate_left
  · (intro w hSw; (try dsimp only at hSw); go_simp; try with_reducible rfl)
  try simp only [Act.put, List.setIfInBounds_toArray, List.set_cons_zero, List.set_cons_succ]
  refine wpAnyX_takeD (i := 10) (some 15) (v := ?_) rfl rfl (by kernel_rfl) (by kernel_rfl) (by kernel_rfl) (by kernel_rfl) (fun _ _ _ h => h) (Or.inl ⟨by rfl, ?_⟩) (by assumption) ?_
  rotate_left
  · (intro w hSw; (try dsimp only at hSw); go_simp; try with_reducible rfl)
  try simp only [Act.put, List.setIfInBounds_toArray, List.set_cons_zero, List.set_cons_succ]
  rw [← HA2.out]
  have HO0 : Hid ((V.alloc (.cells #[] 71)).drew.ownsRow V.heap.size 71 2 (.slice (some ⟨V.heap.size, 0, none⟩) 0 0) 0 []) := Lib.hid (own_lit1 _ _ _ (Nat.le_refl _) rfl)
  have HV0 : Hid (Below V.heap.size V (V.alloc (.cells #[] 71)).drew) := Lib.hid (bel_d (bel_a (Below.refl _ _) _))
  refine wpAnyX_ready (rs := [0]) (by kernel_rfl) (by simp) ?_
  refine AllReadyX.cons (o := _) rfl (fun K hK => ?_) AllReadyX.nil
  go_simp
  refine hK.out _ _ ((HN.out.below HV0.out).cell rfl) (fun hHeld => ?_)
  clear hK K
  try simp only [Act.put, List.setIfInBounds_toArray, List.set_cons_zero, List.set_cons_succ]
  refine wpAnyX_ready (rs := [5]) (by kernel_rfl) (by simp) ?_
  refine AllReadyX.cons (o := _) rfl (fun K hK => ?_) AllReadyX.nil
  refine step_appb (by rfl) (.tmp 5) (.tmp 9) 42 (by rfl) V HV0.out 71 _ 2 16 (by kernel_rfl) infoR rfl (by decide) (.slice (some ⟨V.heap.size, 0, none⟩) 0 0) 0 [] (by rfl) HO0.out (some ⟨b, off, none⟩) i c (acells (l.take i)) (by rfl) (by exact HR1.out.below HV0.out) (one_als _) (by unfold maxLen; omega) (by omega) ?_
  intro A3 c3 w3 hown3 hb3
  rw [List.nil_append, Nat.zero_add] at hown3
  rw [Nat.zero_add]
  have HO3 := Lib.hid hown3
  have HV3 := Lib.hid hb3
  clear hown3 hb3 HO0 HV0
  refine hK.out _ _ ((HN.out.below HV3.out).cell rfl) (fun hHeld => ?_)
  clear hK K
  try simp only [Act.put, List.setIfInBounds_toArray, List.set_cons_zero, List.set_cons_succ]
  refine wpAnyX_ready (rs := [11]) (by kernel_rfl) (by simp) ?_
  refine AllReadyX.cons (o := _) rfl (fun K hK => ?_) AllReadyX.nil
  refine step_appb (by rfl) (.tmp 10) (.tmp 15) 42 (by rfl) V HV3.out 71 _ 2 16 (by kernel_rfl) infoR rfl (by decide) (.slice A3 i c3) i (acells (l.take i)) (by rfl) HO3.out A2 (n - (i + 1)) (c - (i + 1)) (acells (l.drop (i + 1))) (by rfl) (by exact HR2.out.below HV3.out) (one_als _) (by unfold maxLen; omega) (by omega) ?_
  intro A4 c4 w4 hown4 hb4
  rw [← acells_app, show i + (n - (i + 1)) = n - 1 by omega] at hown4
  rw [show i + (n - (i + 1)) = n - 1 by omega]
  have HO4 := Lib.hid hown4
  have HV4 := Lib.hid hb4
  clear hown4 hb4 HO3 HV3
  refine hK.out _ _ ((HN.out.below HV4.out).cell rfl) (fun hHeld => ?_)
  clear hK K
  try simp only [Act.put, List.setIfInBounds_toArray, List.set_cons_zero, List.set_cons_succ]
  refine wpAnyX_takeD (i := 12) (some 17) (v := ?_) rfl rfl (by kernel_rfl) (by kernel_rfl) (by kernel_rfl) (by kernel_rfl) (fun _ _ _ h => h) (Or.inl ⟨by rfl, ?_⟩) (by assumption) ?_
  rotate_left
  · (intro w hSw; (try dsimp only at hSw); go_simp; try with_reducible rfl)
  try simp only [Act.put, List.setIfInBounds_toArray, List.set_cons_zero, List.set_cons_succ]
  have N4 := HN.out.below HV4.out
  have M4 := HM.out.below HV4.out
  refine wpAnyX_ready (rs := [13]) (by kernel_rfl) (by simp) ?_
  refine AllReadyX.last (o := _) rfl (fun K hK => ?_)
  rw [if_pos (by rfl)]
  refine wp_stF 42 _ _ 0 (.slice A4 (n - 1) c4) rfl (by rfl) (by rfl) (by rfl) N4 (by simp) (by kernel_rfl) rfl ?_
  intro w5 N5 O5
  refine hK.out _ _ ?_
  clear hK K
  try simp only [Act.put, List.setIfInBounds_toArray, List.set_cons_zero, List.set_cons_succ]
  refine wpAnyX_done (by kernel_rfl) ?_ _
  have M5 := M4.only O5 (by omega)
  have hB5 := O5.bel (Nat.le_refl _) (bel_then HB.out HV4.out)
  have hO5 := own_only HO4.out O5 (by have := HZ.out; omega)
  have HN5 := Lib.hid N5
  have HO5 := Lib.hid hO5
  have HC5 := Lib.hid (own_c hO5)
  have HB5 := Lib.hid hB5
  have a0 : w5.cell? ⟨w.heap.size, 0, none⟩ = some (.slice A4 (n - 1) c4) := N5.cell rfl
  have a1 : w5.cell? ⟨w.heap.size, 1, none⟩ = some (.int .i64 now) := N5.cell rfl
  clear N4 M4 N5 O5 hB5 hO5 HO4 HV4 HR1 HR2 hHeld
  go_wp2_with (first | (refine wpList_stB 44 _ _ (by with_reducible rfl) rfl (by rfl) [.slice A4 (n - 1) c4, .int .i64 now] (by rfl) (by assumption) (by rfl) (by kernel_rfl) (by rfl) ?_; intro w6 N6 O6) | fail)
  have r0 : w6.cell? ⟨w.heap.size + 1, 0, none⟩ = some (.slice A4 (n - 1) c4) := N6.cell rfl
  have r1 : w6.cell? ⟨w.heap.size + 1, 1, none⟩ = some (.int .i64 now) := N6.cell rfl
  have hB6 := O6.bel (by omega) HB5.out
  have hR6 := own_weak (own_only HO5.out O6 (by have := HZ.out; omega)) HB.out.size
  exact bodyPost_ret (v := .agg #[.slice A4 (n - 1) c4, .int .i64 now]) (by simp [results, Try.results26, go_sem, r0, r1]) rfl ⟨A4, c4, by rw [HLc.out], by rw [HLc.out]; exact hR6, hB6⟩
/-- what a call answers that makes a wheel of the reference, and a number -/
def RRet2 (w : World) (l : List Wh.Al) (now k : Int) (e : Ending) (w' : World) : Prop := ∃ v, e = .returned (.tuple #[v, .int .i64 k]) ∧ RV w' v l now ∧ Below w.heap.size w w'
set_option maxHeartbeats 8000000 in
theorem rdrop_spec (A : Option Addr) (n c : Nat) (now k : Int) (l : List Wh.Al) (w : World) (hO : w.ownsRow 0 71 2 (.slice A n c) n (acells l)) (hd : (l.map (·.k)).Nodup) (hn : n ≤ 1000) :
    Calls Try.prog 16 #[.agg #[.slice A n c, .int .i64 now], .int .i64 k] w (RRet2 w (Wh.rdrop l k).2 now (Wh.rdrop l k).1) := by
  have hR := Rd.of_own hO
  obtain ⟨hc, hcc⟩ := own_c hO
  have HO0 := Lib.hid hO
  clear hO
  obtain ⟨V, hV⟩ : ∃ V, V = (w.alloc (.cells #[.slice A n c, .int .i64 now] 44)).alloc (.cells #[.slice none 0 0, .int .i64 0] 44) := ⟨_, rfl⟩
  have aV : Below w.heap.size w V := by rw [hV]; exact bel_a (bel_a (Below.refl _ _) _) _
  have hN : BlkV V w.heap.size 44 [.slice A n c, .int .i64 now] := by rw [hV]; exact (BlkV.new _ _ _).alloc _
  have hM : BlkV V (w.heap.size + 1) 44 [.slice none 0 0, .int .i64 0] := by rw [hV]; exact BlkV.new_at _ _ _ (by simp)
  have hl := hR.alen
  have c0 : V.cell? ⟨w.heap.size, 0, none⟩ = some (.slice A n c) := hN.cell rfl
  have c1 : V.cell? ⟨w.heap.size, 1, none⟩ = some (.int .i64 now) := hN.cell rfl
  have HF := Lib.hid (rfind_spec A n c now k l V (hR.below aV) hd hn)
  have HV := Lib.hid hV
  have HB := Lib.hid aV
  have HN := Lib.hid hN
  have HM := Lib.hid hM
  have HL := Lib.hid hl
  have HR := Lib.hid (hR.below aV)
  clear hV aV hN hM hl hR hd
  go_enter Try.func16, Try.ntmps16
  go_wp2_with fail
  rw [← HV.out]
  go_wp2_with fail
  refine HF.out.mono ?_
  rintro e w1 ⟨rfl, hb1⟩
  have N1 := HN.out.below hb1
  have M1 := HM.out.below hb1
  have HN1 := Lib.hid N1
  have HM1 := Lib.hid M1
  have HR1 := Lib.hid (HR.out.below hb1)
  have HB1 := Lib.hid (bel_then HB.out hb1)
  have c0 : w1.cell? ⟨w.heap.size, 0, none⟩ = some (.slice A n c) := N1.cell rfl
  have c1 : w1.cell? ⟨w.heap.size, 1, none⟩ = some (.int .i64 now) := N1.cell rfl
  clear hb1 HF HN HM HR HB
  unfold Wh.at_
  cases hp : Wh.place l k with
  | none =>
    have HP : Hid (Wh.rdrop l k = (9, l)) := Lib.hid (by unfold Wh.rdrop; rw [hp])
    simp only
    clear hp
    go_wp2_with (first | (refine wpList_stB 44 _ _ (by with_reducible rfl) rfl (by rfl) [.slice A n c, .int .i64 now] (by rfl) (by exact M1) (by rfl) (by kernel_rfl) (by rfl) ?_; intro w6 N6 O6) | fail)
    have r0 : w6.cell? ⟨w.heap.size + 1, 0, none⟩ = some (.slice A n c) := N6.cell rfl
    have r1 : w6.cell? ⟨w.heap.size + 1, 1, none⟩ = some (.int .i64 now) := N6.cell rfl
    have hB6 := O6.bel (by omega) HB1.out
    exact bodyPost_ret (v := .tuple #[.agg #[.slice A n c, .int .i64 now], .int .i64 9]) (by simp [results, Try.results16, go_sem, r0, r1]) rfl (by
      rw [HP.out]
      refine ⟨_, rfl, ⟨A, c, by rw [HL.out], by rw [HL.out]; exact own_below HO0.out hB6⟩, hB6⟩)
  | some i =>
    obtain ⟨hi, _⟩ := Wh.place_some hp
    have HP : Hid (Wh.rdrop l k = (0, Wh.cut l i)) := Lib.hid (by unfold Wh.rdrop; rw [hp])
    have HW := Lib.hid (rwo_spec A n c now i l w1 HR1.out (by rw [← HL.out]; exact hi) hc hcc hn)
    simp only
    clear hp hi
    go_wp2_with fail
    refine HW.out.mono ?_
    rintro e w2 ⟨A2, c2, rfl, hO2, hb2⟩
    have M2 := M1.below hb2
    have HO2 := Lib.hid hO2
    have HB2 := Lib.hid (bel_then HB1.out hb2)
    have hz1 : w.heap.size + 1 < w1.heap.size := M1.lt
    clear hO2 hb2 N1 M1 HN1 HM1 HR1 HW
    go_wp2_with (first | (refine wpList_stB 44 _ _ (by with_reducible rfl) rfl (by rfl) [.slice A2 (Wh.cut l i).length c2, .int .i64 now] (by rfl) (by exact M2) (by rfl) (by kernel_rfl) (by rfl) ?_; intro w6 N6 O6) | fail)
    have r0 : w6.cell? ⟨w.heap.size + 1, 0, none⟩ = some (.slice A2 (Wh.cut l i).length c2) := N6.cell rfl
    have r1 : w6.cell? ⟨w.heap.size + 1, 1, none⟩ = some (.int .i64 now) := N6.cell rfl
    have hB6 := O6.bel (by omega) HB2.out
    have hO6 := own_only HO2.out O6 hz1
    exact bodyPost_ret (v := .tuple #[.agg #[.slice A2 (Wh.cut l i).length c2, .int .i64 now], .int .i64 0]) (by simp [results, Try.results16, go_sem, r0, r1]) rfl (by
      rw [HP.out]
      exact ⟨_, rfl, ⟨A2, c2, rfl, own_weak hO6 (Nat.zero_le _)⟩, hB6⟩)
end Go.Proofs.Ytlibhboibkajgaa
