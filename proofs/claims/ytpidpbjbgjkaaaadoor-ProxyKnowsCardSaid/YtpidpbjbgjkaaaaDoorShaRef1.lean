/- The walk of the reference's Sum (sha). -/
import Derived.Test.YtpidpbjbgjkaaaaDoorShaRefP
import Derived.Test.YtpidpbjbgjkaaaaDoorShaSum
import Derived.Deep.RegionHeld3
namespace Go.Proofs.YtpidpbjbgjkaaaaDoor
open Go.RowKit
set_option linter.unusedVariables false
theorem Only.then_below {g : Nat} {a w w' : World} (h : Only g a w) (hb : Below w.heap.size w w') : Only g a w' :=
  ⟨hb.os.trans h.os, hb.tape.trans h.tape, hb.output.trans h.output, Nat.le_trans h.size hb.size, fun k hk hne => (hb.block k (Nat.lt_of_lt_of_le hk h.size)).trans (h.block k hk hne)⟩
theorem Only.then_only {g g2 : Nat} {a w w' : World} (h : Only g a w) (k : Only g2 w w') (hg : g2 = g ∨ a.heap.size ≤ g2) : Only g a w' :=
  ⟨k.os.trans h.os, k.tape.trans h.tape, k.output.trans h.output, Nat.le_trans h.size k.size, fun j hj hne => (k.block j (Nat.lt_of_lt_of_le hj h.size) (by omega)).trans (h.block j hj hne)⟩
theorem Only.refl (g : Nat) (w : World) : Only g w w := ⟨rfl, rfl, rfl, Nat.le_refl _, fun _ _ _ => rfl⟩
theorem own_block {w : World} {base : Nat} {e : TypeId} {s n c : Nat} {A : Option Addr} {xs : List Value} (h : w.ownsRow base e s (.slice A n c) n xs) (hn : 0 < n) : ∃ g, A = some ⟨g, 0, none⟩ ∧ base ≤ g ∧ g < w.heap.size ∧ n ≤ c ∧ c ≤ maxLen := by
  rcases h.2 with ⟨_, h0⟩ | ⟨g, cap, cur, hv, hb, hg, h1, h2, _⟩
  · omega
  · injection hv with h3 h4 h5
    exact ⟨g, h3, hb, (Array.getElem?_eq_some_iff.1 hg).1, by omega, by omega⟩
theorem own_weaken {w : World} {base base' : Nat} {e : TypeId} {s n : Nat} {v : Value} {xs : List Value} (h : w.ownsRow base e s v n xs) (hb : base' ≤ base) : w.ownsRow base' e s v n xs := by
  refine ⟨h.1, h.2.imp id ?_⟩
  rintro ⟨g, cap, cur, h1, h2, h3⟩
  exact ⟨g, cap, cur, h1, Nat.le_trans hb h2, h3⟩
theorem step_app {P : Program} (w : World) {ops : Array Oper} {o : Oper} {a : Act} {K : Act → World → Prop} {E : Prop} (hw : Region.wanted o (yielded ops a.tmps) = true) (s x : Operand) (t : TypeId)
    {Q : Exit → Act → World → Prop}
    (ho : o.op = .call { callee := .builtin .append, args := #[s, x], argTypes := #[t, t] })
    (a0 : World) (hbel : Below a0.heap.size a0 w) (e : TypeId) (z : Value) (size bytes : Nat) (ht : P.underlying t = some (.slice e))
    (hinfo : (P.info? e).map (fun i => (i.zero, i.size, i.bytes)) = some (some z, size, bytes)) (hzs : z.cells.size = size) (hsz : 0 < size)
    (v : Value) (n : Nat) (xs : List Value) (hs : a.eval s = v) (hown : w.ownsRow a0.heap.size e size v n xs)
    (A : Option Addr) (m c : Nat) (news : List Value) (hx : a.eval x = .slice A m c) (hr : Rd w size A m news) (h1 : ∀ u ∈ news, u.oneCell' = true)
    (h63 : n + m ≤ maxLen) (hbytes : (n + m) * bytes ≤ 140737488355328)
    (h : ∀ A' c' w', w'.ownsRow a0.heap.size e size (.slice A' (n + m) c') (n + m) (xs ++ news) → Below a0.heap.size a0 w' → w.grownBy w' v.ownBlock → K (a.put o.dst (.slice A' (n + m) c')) w') :
    if Region.wanted o (yielded ops a.tmps) = true then Oper.wp P o a w K Q else E := by
  rw [if_pos hw]
  obtain ⟨i, hi, hz, hsize, hby⟩ := info_parts hinfo
  obtain ⟨A', c', w', hrun, h2, h3, h4⟩ := run_append_rd (P := P) w a0.heap.size t o.type e i z size bytes ht hi hz hsize hby hzs hsz _ n xs hown A m c news hr h1 h63 hbytes hbel.size
  unfold Oper.wp execOp
  simp only [ho, resolve, invoke, builtin, Sem.run_bind, Sem.run_pure, Result.andThen_ok, List.map_toArray, List.map_cons, List.map_nil, hs, hx, hrun]
  exact h A' c' w' h2 (hbel.grown h3 hbel.size (fun g hg => (hown.lt g hg).1)) h3
/-- append onto a row of the call's own, in a region that draws: the old row's cells stay as they were, wherever the new one lies -/
theorem app_keeps {P : Program} (w : World) (base : Nat) (t ty e : TypeId) (i : TypeInfo) (z : Value) (bytes : Nat) (ht : P.underlying t = some (.slice e)) (hi : P.info? e = some i) (hz : i.zero = some z)
    (hsize : i.size = 1) (hby : i.bytes = bytes) (g n cap : Nat) (xs : List Value) (hown : w.ownsRow base e 1 (.slice (some ⟨g, 0, none⟩) n cap) n xs)
    (b : Nat) (m c : Nat) (news : List Value) (hr : Rd w 1 (some ⟨b, 0, none⟩) m news) (hm : 0 < m) (h1 : ∀ u ∈ news, u.oneCell' = true)
    (h63 : n + m ≤ maxLen) (hbytes : (n + m) * bytes ≤ 140737488355328) {v' : Value} {w' : World}
    (hrun : (Builtin.append_ #[t, t] ty #[.slice (some ⟨g, 0, none⟩) n cap, .slice (some ⟨b, 0, none⟩) m c]).run P w = .ok v' w') : ∀ j u, xs[j]? = some u → w'.cell? ⟨g, j, none⟩ = some u := by
  have hold : ∀ j u, xs[j]? = some u → w.cell? ((⟨g, 0, none⟩ : Addr).add j) = some u := hown.cells (g := g) rfl
  have hnews : ∀ j u, news[j]? = some u → w.cell? ((⟨b, 0, none⟩ : Addr).add j) = some u := by
    obtain ⟨b', off', e', hb, hc⟩ := hr.2 hm
    injection e' with e'
    injection e' with e1 e2
    subst e1 e2
    intro j u hu
    rw [add_off]
    exact hc j u hu
  have hl : news.length = m * i.size := by rw [hsize]; exact hr.1
  rcases hown.2 with ⟨h, _⟩ | ⟨g', cap', cur, hv, hbg, hg, hnc, hcm, hcs, htake⟩
  · cases h
  injection hv with e1 e2 e3
  injection e1 with e1
  injection e1 with e1
  subst e1
  subst e3
  have hg63 : n + m ≤ 9223372036854775807 := by unfold maxLen at h63; omega
  intro j u hu
  have hj : j < n := by
    have := (List.getElem?_eq_some_iff.1 hu).1
    have := hown.1
    omega
  by_cases hroom : n + m ≤ cap
  · have hfit : n * i.size + news.length ≤ cur.size := by rw [hl, hcs, hsize]; omega
    have h2 := run_append_room (P := P) w t ty e i ht hi g n cap cur hg ⟨b, 0, none⟩ m c news hl hnews h1 hroom hfit
    rw [hrun] at h2
    injection h2 with h2 h3
    subst h3
    rw [cell_of_row _ _ j _ e (0, 0) (setRow_heap w g cur _ e _ hg)]
    have hlt : j < (cur.toList.take (n * i.size)).length := by
      rw [hsize, Nat.mul_one, List.length_take, Array.length_toList]
      omega
    rw [List.getElem?_toArray, List.append_assoc, List.getElem?_append_left hlt, hsize, htake]
    exact hu
  · have h2 := run_append_grow (P := P) w t ty e i z ht hi hz ⟨g, 0, none⟩ n cap xs (by rw [hsize]; exact hown.1) hold ⟨b, 0, none⟩ m c news hl hnews (by omega) (by omega) (growslice_fits (by omega) (by rw [hby]; exact hbytes))
    rw [hrun] at h2
    injection h2 with h2 h3
    subst h3
    have hlt : g < w.heap.size := (Array.getElem?_eq_some_iff.1 hg).1
    have h4 := hold j u hu
    rw [add_off, Nat.zero_add] at h4
    exact (World.cell?_of_block (w := w) (a := ⟨g, j, none⟩) (Below.heap_alloc w.drew _ g hlt)).trans h4
theorem step_app_in {P : Program} (w : World) {ops : Array Oper} {o : Oper} {a : Act} {K : Act → World → Prop} {E : Prop} (hw : Region.wanted o (yielded ops a.tmps) = true) (s x : Operand) (t : TypeId)
    {Q : Exit → Act → World → Prop}
    (ho : o.op = .call { callee := .builtin .append, args := #[s, x], argTypes := #[t, t] })
    (a0 : World) (hbel : Below a0.heap.size a0 w) (e : TypeId) (z : Value) (bytes : Nat) (ht : P.underlying t = some (.slice e))
    (hinfo : (P.info? e).map (fun i => (i.zero, i.size, i.bytes)) = some (some z, 1, bytes)) (hzs : z.cells.size = 1)
    (g n cap : Nat) (xs : List Value) (hs : a.eval s = .slice (some ⟨g, 0, none⟩) n cap) (hown : w.ownsRow a0.heap.size e 1 (.slice (some ⟨g, 0, none⟩) n cap) n xs)
    (b m c : Nat) (news : List Value) (hx : a.eval x = .slice (some ⟨b, 0, none⟩) m c) (hr : Rd w 1 (some ⟨b, 0, none⟩) m news) (hm : 0 < m) (h1 : ∀ u ∈ news, u.oneCell' = true)
    (h63 : n + m ≤ maxLen) (hbytes : (n + m) * bytes ≤ 140737488355328)
    (h : ∀ A' c' w', w'.ownsRow a0.heap.size e 1 (.slice A' (n + m) c') (n + m) (xs ++ news) → Below a0.heap.size a0 w' → (∀ j u, xs[j]? = some u → w'.cell? ⟨g, j, none⟩ = some u) → K (a.put o.dst (.slice A' (n + m) c')) w') :
    if Region.wanted o (yielded ops a.tmps) = true then Oper.wp P o a w K Q else E := by
  rw [if_pos hw]
  obtain ⟨i, hi, hz, hsize, hby⟩ := info_parts hinfo
  obtain ⟨A', c', w', hrun, h2, h3, h4⟩ := run_append_rd (P := P) w a0.heap.size t o.type e i z 1 bytes ht hi hz hsize hby hzs (by decide) _ n xs hown (some ⟨b, 0, none⟩) m c news hr h1 h63 hbytes hbel.size
  have hk := app_keeps (P := P) w a0.heap.size t o.type e i z bytes ht hi hz hsize hby g n cap xs hown b m c news hr hm h1 h63 hbytes hrun
  unfold Oper.wp execOp
  simp only [ho, resolve, invoke, builtin, Sem.run_bind, Sem.run_pure, Result.andThen_ok, List.map_toArray, List.map_cons, List.map_nil, hs, hx, hrun]
  exact h A' c' w' h2 (hbel.grown h3 hbel.size (fun g hg => (hown.lt g hg).1)) hk
theorem bel_al {w w' : World} (h : Below w.heap.size w w') (o : Obj) : Below w.heap.size w (w'.alloc o) := h.alloc h.size o
theorem bel_dr {B : Nat} {w w' : World} (h : Below B w w') : Below B w w'.drew := ⟨h.os, h.tape, h.output, h.size, h.block⟩
theorem bel_drN {B : Nat} {w w' : World} (h : Below B w w') (k : Nat) : Below B w (w'.drewN k) := ⟨h.os, h.tape, h.output, h.size, h.block⟩
theorem own_al {w : World} {base : Nat} {e : TypeId} {s n : Nat} {v : Value} {xs : List Value} (h : w.ownsRow base e s v n xs) (o : Obj) : (w.alloc o).ownsRow base e s v n xs := h.alloc o
theorem own_dr {w : World} {base : Nat} {e : TypeId} {s n : Nat} {v : Value} {xs : List Value} (h : w.ownsRow base e s v n xs) : w.drew.ownsRow base e s v n xs := h
theorem own_drN {w : World} {base : Nat} {e : TypeId} {s n : Nat} {v : Value} {xs : List Value} (h : w.ownsRow base e s v n xs) (k : Nat) : (w.drewN k).ownsRow base e s v n xs := h
theorem own_u32 {w : World} {base : Nat} {e : TypeId} {n c g : Nat} {L : List Int} (h : w.ownsRow base e 1 (.slice (some ⟨g, 0, none⟩) n c) n (L.map (Value.int .u32))) {j : Nat} (hj : j < L.length) : w.cell? ⟨g, j, none⟩ = some (.int .u32 (L.getD j 0)) := by
  obtain ⟨b, off, e', hb, hc⟩ := (Rd.of_own h).2 (by have := h.1; simp at this; omega)
  injection e' with e'
  injection e' with e1 e2
  subst e1 e2
  have := hc j (.int .u32 (L.getD j 0)) (by simp [hj])
  rwa [Nat.zero_add] at this
theorem map_u32 {L : List Int} {j : Nat} (hj : j < L.length) : (L.map (Value.int .u32))[j]? = some (.int .u32 (L.getD j 0)) := by simp [hj]
theorem one_u8 (x : Int) : ∀ u ∈ [Value.int .u8 x], u.oneCell' = true := by
  intro u hu
  rw [List.mem_singleton] at hu
  subst hu
  rfl
theorem one_u32 (x : Int) : ∀ u ∈ [Value.int .u32 x], u.oneCell' = true := by
  intro u hu
  rw [List.mem_singleton] at hu
  subst hu
  rfl
theorem bs_one (x : Int) : [Value.int .u8 x] = bs [x] := rfl
theorem sref_info32 : (Tryd.prog.info? 23).map (fun i => (i.zero, i.size, i.bytes)) = some (some (.int .u32 0), 1, 4) := by kernel_rfl
set_option maxRecDepth 8000 in
set_option maxHeartbeats 8000000 in
theorem rsum_spec (A : Option Addr) (n c : Nat) (l : List Int) (w : World) (hT : TabK w) (hR : Rd w 1 A n (bs l)) (hB : isB l) (hn : n ≤ 4294967295) :
    Calls Tryd.prog 77 #[.slice A n c] w fun e w' => ∃ A' c', e = .returned (.slice A' 32 c') ∧ w'.ownsRow w.heap.size 5 1 (.slice A' 32 c') 32 (bs (Sha.sum l)) ∧ Below w.heap.size w w' := by
  have hl := hR.blen
  obtain ⟨Z, hZ⟩ : ∃ Z, Z = Sha.zn n := ⟨_, rfl⟩
  obtain ⟨K, hK⟩ : ∃ K, K = (n + 8) / 64 + 1 := ⟨_, rfl⟩
  have HZM : Hid (∀ k, k ≤ Z → ((n + 1 + k) % 64 = 56 ↔ k = Z)) := Lib.hid (fun k hk => by rw [hZ] at hk ⊢; exact Sha.zn_mod hk)
  have HPAD : Hid (Sha.mz l Z ++ (Sha.tail8 n).take 8 = Sha.pad l) := Lib.hid (by rw [Sha.tail8_all, hZ, Sha.pad_mz, hl])
  have hZb : Z ≤ 64 := by rw [hZ]; unfold Sha.zn Sha.psize; omega
  have HLEN : Hid (n + 1 + Z + 8 = 64 * K) := Lib.hid (by have := Sha.zn_sum n; rw [← hZ] at this; rw [this, hK]; unfold Sha.psize; omega)
  have hKb : K ≤ 67108865 := by rw [hK]; omega
  have HSUM : Hid (Sha.sum l = Sha.bytes (Sha.all Sha.first (Sha.pad l) K)) := Lib.hid (by rw [hK, ← hl]; rfl)
  have HPL : Hid ((Sha.pad l).length = 64 * K) := Lib.hid (by rw [Sha.pad_len, hl, hK]; unfold Sha.psize; omega)
  have HPB : Hid (isB (Sha.pad l)) := Lib.hid (Sha.pad_isB hB)
  have HT := Lib.hid hT
  have HR := Lib.hid hR
  clear hl hK hZ hR hB hT
  go_enter Tryd.func77, Tryd.ntmps77
  go_wp2_with (first | (at_builtin; refine wpList_app0 _ rfl (.tmp 23) (.tmp 24) 27 rfl w (by exact Below.refl _ _) 5 (.int .u8 0) 1 1 Tryd.underlying27 pad_info8 rfl (by decide) rfl A n c (bs l) rfl (by exact HR.out) (one_bs l) (by unfold maxLen; omega) (by omega) ?_; intro A1 c1 w1 hown1 hb1 hg1 hat1) | (at_builtin; refine wpList_app _ rfl (.tmp 25) (.tmp 26) 27 rfl w (by exact hb1.alloc hb1.size _) 5 (.int .u8 0) 1 1 Tryd.underlying27 pad_info8 rfl (by decide) _ n (bs l) rfl (by exact hown1.alloc _) (some ⟨_, 0, none⟩) 1 1 [.int .u8 128] rfl (by exact rd_one _ _ _) (one_u8 _) (by unfold maxLen; omega) (by omega) ?_; intro A2 c2 w2 hown2 hb2 hg2 hat2))
  have HO2 : Hid (w2.ownsRow w.heap.size 5 1 (.slice A2 (n + 1) c2) (n + 1) (bs (Sha.mz l 0))) := Lib.hid (by rw [bs_one, ← bs_append] at hown2; simpa [Sha.mz] using hown2)
  clear hown1 hb1 hg1 hat1 hown2 hg2 hat2 HR
  go_loopg [3] Z (fun g s3 wx => ∃ (k L : Nat) (A' : Option Addr) (c' : Nat), k + g = Z ∧ L = n + 1 + k ∧ s3 = .slice A' L c' ∧ wx.ownsRow w.heap.size 5 1 (.slice A' L c') L (bs (Sha.mz l k)) ∧ Below w.heap.size w wx)
  case atStart => exact ⟨0, n + 1, A2, c2, by omega, rfl, rfl, HO2.out, hb2⟩
  case round =>
    obtain ⟨k, L, A', c', hkg, hL, rfl, hown, hbx⟩ := hrel
    have hbx' := hbx.size
    have HO := Lib.hid hown
    clear hb2 HO2 hown
    cases gk with
    | zero =>
      obtain rfl : k = Z := by omega
      have ht : ((L : Int) % 64 != 56) = false := by
        have := (HZM.out k (Nat.le_refl _)).2 rfl
        rw [bne_eq_false_iff_eq]; omega
      have HL := Lib.hid hL
      have hLb : L ≤ 4294967360 := by omega
      have hn8 : IntKind.i64.wrap ((n : Int) * 8) = ((n * 8 : Nat) : Int) := by rw [IntWalk.i64_in _ (by omega)]; push_cast; rfl
      clear hL hkg
      go_wp2_with fail
      go_loopg [3, 5] 8 (fun g s3 s5 wx => ∃ (i M : Nat) (A' : Option Addr) (c' : Nat), i + g = 8 ∧ M = L + i ∧ s5 = .int .i64 i ∧ s3 = .slice A' M c' ∧ wx.ownsRow w.heap.size 5 1 (.slice A' M c') M (bs (Sha.mz l k ++ (Sha.tail8 n).take i)) ∧ Below w.heap.size w wx)
      case atStart => exact ⟨0, L, A', c', by omega, rfl, rfl, rfl, by simpa using HO.out, hbx⟩
      case round =>
        obtain ⟨i, M, A3, c3, hig, hM, rfl, rfl, hown, hby⟩ := hrel
        have hbx' := hby.size
        have HO3 := Lib.hid hown
        clear hbx HO hown ht
        have hMb : M ≤ 4294967368 := by omega
        have HM := Lib.hid hM
        cases gk with
        | zero =>
          obtain rfl : i = 8 := by omega
          have hMK : M = 64 * K := by have := HLEN.out; have := HL.out; omega
          have hK1 : 1 ≤ K := by have := HLEN.out; omega
          have HMK := Lib.hid hMK
          obtain ⟨gm, rfl, hgm0, hgm1, hgm2, hgm3⟩ := own_block HO3.out (by omega)
          have HMR : Hid (wr.ownsRow w.heap.size 5 1 (.slice (some ⟨gm, 0, none⟩) M c3) M (bs (Sha.pad l))) := Lib.hid (by rw [← HPAD.out]; exact HO3.out)
          clear HO3 HPAD HLEN HL HZM hLb hn8 hMb hZb hMK hM HM
          obtain ⟨wp, rfl⟩ : ∃ wp : World, wp = wr := ⟨_, rfl⟩
          obtain ⟨wm, hwm⟩ : ∃ wm, wm = wp.alloc (.cells #[.int .u32 1779033703, .int .u32 3144134277, .int .u32 1013904242, .int .u32 2773480762, .int .u32 1359893119, .int .u32 2600822924, .int .u32 528734635, .int .u32 1541459225] 113) := ⟨_, rfl⟩
          have BH : BlkW wm wp.heap.size 113 (Sha.vs (Sha.all Sha.first (Sha.pad l) 0)) := by rw [hwm]; exact heap_alloc_new wp _
          have hbm : Below w.heap.size w wm := by rw [hwm]; exact hby.alloc hby.size _
          have hsm : wm.heap.size = wp.heap.size + 1 := by rw [hwm]; simp
          have HMC : Hid (∀ wx, Only wp.heap.size wm wx → ∀ j, j < M → wx.cell? ⟨gm, j, none⟩ = some (.int .u8 ((Sha.pad l).getD j 0))) := Lib.hid (fun wx hO j hj => by
            have hR : Rd wm 1 (some ⟨gm, 0, none⟩) M (bs (Sha.pad l)) := by rw [hwm]; exact (Rd.of_own HMR.out).alloc _
            obtain ⟨b, off, e, hb, hc⟩ := hR.byte hj
            injection e with e
            injection e with e1 e2
            subst e1 e2
            rw [Nat.zero_add] at hc
            exact (hO.keep (p := ⟨gm, j, none⟩) (by show gm < _; omega) (by show gm ≠ _; omega)).trans hc)
          have HTK : Hid (∀ wx, Only wp.heap.size wm wx → ∀ i, i < 64 → wx.cell? ⟨1, i, none⟩ = some (.int .u32 (Sha.rounds.getD i 0))) := Lib.hid (fun wx hO i hi => (HT.out.below (hO.below hbm (by omega) (by omega))).2 i hi)
          have HBM := Lib.hid hbm
          clear HMR HT hbm
          go_wp2_with fail
          rw [← hwm]
          clear hwm hby
          go_loopg [9] K (fun g s9 wx => ∃ q a : Nat, q + g = K ∧ a = 64 * q ∧ s9 = .int .i64 (a : Int) ∧ Only wp.heap.size wm wx ∧ BlkW wx wp.heap.size 113 (Sha.vs (Sha.all Sha.first (Sha.pad l) q)))
          case atStart => exact ⟨0, 0, by omega, rfl, rfl, Only.refl _ _, BH⟩
          case round =>
            obtain ⟨q, a, hqg, ha, rfl, hO, BHx⟩ := hrel
            clear BH
            cases gk with
            | zero =>
              obtain rfl : q = K := by omega
              obtain rfl : a = M := by have := HMK.out; omega
              have hV := Sha.first_ok.all (Sha.pad l) q
              have hbz := hO.below HBM.out (by omega) (by omega)
              have hsz := hO.size
              generalize Sha.all Sha.first (Sha.pad l) q = V at HSUM BHx hV
              clear HMC HTK HBM hO ha
              have BB := Lib.hid BHx
              have HV := Lib.hid hV
              clear BHx hV HMK
              go_wp2_with fail
              obtain ⟨we, rfl⟩ : ∃ we : World, we = wr := ⟨_, rfl⟩
              go_loopg [21, 22] 8 (fun g s21 s22 wx => ∃ (i : Nat) (A2 : Option Addr) (c2 : Nat), i + g = 8 ∧ s22 = .int .i64 i ∧ s21 = .slice A2 (4 * i) c2 ∧ wx.ownsRow we.heap.size 5 1 (.slice A2 (4 * i) c2) (4 * i) (bs ((Sha.bytes V).take (4 * i))) ∧ Below we.heap.size we wx)
              case atStart => exact ⟨0, none, 0, by omega, rfl, rfl, World.ownsRow_nil _ _ _ _, Below.refl _ _⟩
              case round =>
                obtain ⟨i, A2, c2, hig, rfl, rfl, hown, hby⟩ := hrel
                have hby' := hby.size
                have HO := Lib.hid hown
                clear hown
                cases gk with
                | zero =>
                  obtain rfl : i = 8 := by omega
                  go_wp2_with fail
                  go_ret
                  refine ⟨A2, c2, rfl, ?_, bel_then hbz hby⟩
                  have := HO.out
                  rw [HSUM.out]
                  exact own_weaken this hbz.size
                | succ g =>
                  have hi : i < 8 := by omega
                  have hiz : (i : Int) < 8 := by omega
                  have HBT := Lib.hid (Sha.bytes_take V i hi)
                  obtain ⟨hx0, hx1⟩ := Sha.vs_bd HV.out i
                  have BBx := BB.out.below hby
                  have hcx := BBx.cell (i := i) (by simp [Sha.vs]; omega)
                  have hcw := BB.out.cell (i := i) (by simp [Sha.vs]; omega)
                  have hlt := BBx.lt
                  clear BBx
                  generalize (Sha.vs V).getD i 0 = x at hcx hcw HBT hx0 hx1
                  have f1 : IntKind.u8.wrap (IntKind.u32.wrap (x.tdiv 16777216)) = x / 16777216 := by rw [Int.tdiv_eq_ediv_of_nonneg hx0, IntKind.wrap_u32, IntKind.wrap_u8]; omega
                  have f2 : IntKind.u8.wrap ((IntKind.u32.wrap (x.tdiv 65536)).tmod 256) = x / 65536 % 256 := by rw [Int.tdiv_eq_ediv_of_nonneg hx0, IntKind.wrap_u32, Int.tmod_eq_emod_of_nonneg (by omega), IntKind.wrap_u8]; omega
                  have f3 : IntKind.u8.wrap ((IntKind.u32.wrap (x.tdiv 256)).tmod 256) = x / 256 % 256 := by rw [Int.tdiv_eq_ediv_of_nonneg hx0, IntKind.wrap_u32, Int.tmod_eq_emod_of_nonneg (by omega), IntKind.wrap_u8]; omega
                  have f4 : IntKind.u8.wrap (x.tmod 256) = x % 256 := by rw [Int.tmod_eq_emod_of_nonneg hx0, IntKind.wrap_u8]; omega
                  have KF : Hid (∀ w' : World, Below we.heap.size we w' → Below we.heap.size we w' ∧ w'.cell? ⟨wp.heap.size, i, none⟩ = some (.int .u32 x)) := Lib.hid fun w' hb => ⟨hb, (hb.cell (p := ⟨wp.heap.size, i, none⟩) BB.out.lt).trans hcw⟩
                  go_wp2_with fail
                  go_region_held3 (fun w' => Below we.heap.size we w' ∧ w'.cell? ⟨wp.heap.size, i, none⟩ = some (.int .u32 x)) (exact KF.out _ (by repeat (first | with_reducible exact hbn | with_reducible exact hby | with_reducible refine bel_al ?_ _ | with_reducible refine bel_dr ?_ | with_reducible refine bel_drN ?_ _)))
                    (first | (refine step_app _ (by rfl) (.tmp 194) (.tmp 217) 27 (by rfl) we (by repeat (first | with_reducible exact hby | with_reducible refine bel_al ?_ _ | with_reducible refine bel_dr ?_ | with_reducible refine bel_drN ?_ _)) 5 (.int .u8 0) 1 1 Tryd.underlying27 pad_info8 rfl (by decide) (.slice A2 (4 * i) c2) (4 * i) (bs ((Sha.bytes V).take (4 * i))) (by rfl) (by repeat (first | with_reducible exact HO.out | with_reducible refine own_al ?_ _ | with_reducible refine own_dr ?_ | with_reducible refine own_drN ?_ _)) (some ⟨_, 0, none⟩) 4 4 (bs (Sha.word4 x)) (by rfl) (by repeat (first | exact rd_new _ _ (Sha.word4 x) 4 rfl | with_reducible refine Rd.drew ?_ | with_reducible refine Rd.drewN ?_ _)) (one_bs _) (by unfold maxLen; omega) (by omega) ?_; intro A3 c3 w3 hown3 hbn hg3))
                  go_wp2_with fail
                  go_roundg g
                  case measure => omega
                  case rel => exact ⟨i + 1, A3, c3, by omega, rfl, rfl, by rw [← bs_append, ← HBT.out] at hown3; exact hown3, hbn⟩
            | succ ga =>
              have haN : a + 64 ≤ M := by have := HMK.out; omega
              have haM : (a : Int) < (M : Int) := by omega
              obtain ⟨wo, rfl⟩ : ∃ wo : World, wo = wr := ⟨_, rfl⟩
              obtain ⟨b, hb⟩ : ∃ b, b = ((Sha.pad l).drop (64 * q)).take 64 := ⟨_, rfl⟩
              have HMO : Hid (∀ wx, Below wo.heap.size wo wx → ∀ j, j < M → wx.cell? ⟨gm, j, none⟩ = some (.int .u8 ((Sha.pad l).getD j 0))) := Lib.hid fun wx hbx j hj => HMC.out wx (hO.then_below hbx) j hj
              have HW : Hid (∀ i, i < 16 → Sha.wpart (Sha.pad l) (a + 4 * i) 4 = Sha.wordAt b i) := Lib.hid fun i hi => by rw [ha, hb]; exact Sha.wpart_word _ _ _ hi
              have HBB : Hid (isB b) := Lib.hid (by rw [hb]; exact fun x hx => HPB.out x (List.mem_of_mem_drop (List.mem_of_mem_take hx)))
              have HMIX : Hid (Sha.all Sha.first (Sha.pad l) (q + 1) = Sha.mix (Sha.all Sha.first (Sha.pad l) q) b) := Lib.hid (by rw [hb]; rfl)
              have HA := Lib.hid ha
              have HOO := Lib.hid hO
              have hO0 := hO.size
              have BB := Lib.hid BHx
              have hV := Lib.hid (Sha.first_ok.all (Sha.pad l) q)
              clear hb ha hO BHx
              go_wp2_with fail
              go_loopg [10, 11] 16 (fun g s10 s11 wx => ∃ (i : Nat) (Aw : Option Addr) (cw : Nat), i + g = 16 ∧ s11 = .int .i64 i ∧ s10 = .slice Aw i cw ∧ wx.ownsRow wo.heap.size 23 1 (.slice Aw i cw) i (((Sha.words b).take i).map (.int .u32)) ∧ Below wo.heap.size wo wx)
              case atStart => exact ⟨0, none, 0, by omega, rfl, rfl, World.ownsRow_nil _ _ _ _, Below.refl _ _⟩
              case round =>
                obtain ⟨i, Aw, cw, hig, rfl, rfl, hown, hby⟩ := hrel
                have hby' := hby.size
                have HO := Lib.hid hown
                clear hown
                cases gk with
                | zero =>
                  obtain rfl : i = 16 := by omega
                  go_wp2_with fail
                  have HO7 : Hid (wr.ownsRow wo.heap.size 23 1 (.slice Aw (16 + 0) cw) (16 + 0) ((Sha.sched (Sha.words b) 0).map (.int .u32))) := Lib.hid (by have h := HO.out; rw [Sha.words_all] at h; exact h)
                  clear HO HW HMO hig
                  go_loopg [10, 14] 48 (fun g s10 s14 wx => ∃ (k n : Nat) (Aw : Option Addr) (cw : Nat), k + g = 48 ∧ n = 16 + k ∧ s14 = .int .i64 n ∧ s10 = .slice Aw n cw ∧ wx.ownsRow wo.heap.size 23 1 (.slice Aw n cw) n ((Sha.sched (Sha.words b) k).map (.int .u32)) ∧ Below wo.heap.size wo wx)
                  case atStart => exact ⟨0, 16, Aw, cw, by omega, rfl, rfl, rfl, HO7.out, hby⟩
                  case round =>
                    obtain ⟨k, n, Aw, cw, hkg, hn, rfl, rfl, hown, hby⟩ := hrel
                    have hby' := hby.size
                    have HO := Lib.hid hown
                    have hlen : (Sha.sched (Sha.words b) k).length = n := by rw [Sha.sched_len, Sha.words_len]; omega
                    clear HO7
                    cases gk with
                    | zero =>
                      obtain rfl : k = 48 := by omega
                      obtain rfl : n = 64 := by omega
                      obtain ⟨gw, rfl, hgw0, hgw1, hgw2, hgw3⟩ := own_block hown (by omega)
                      obtain ⟨ws, hws⟩ : ∃ ws, ws = Sha.sched (Sha.words b) 48 := ⟨_, rfl⟩
                      have hwl : ws.length = 64 := by rw [hws]; exact hlen
                      rw [← hws] at hown
                      have HWC : Hid (∀ i, i < 64 → wr.cell? ⟨gw, i, none⟩ = some (.int .u32 (ws.getD i 0))) := Lib.hid fun i hi => own_u32 hown (by omega)
                      have HWB : Hid (∀ x ∈ ws, 0 ≤ x ∧ x ≤ 4294967295) := Lib.hid (by rw [hws]; exact Sha.sched_bd (Sha.words_bd HBB.out) _)
                      have HADD : Hid (Sha.all Sha.first (Sha.pad l) (q + 1) = Sha.add (Sha.all Sha.first (Sha.pad l) q) (Sha.steps ws (Sha.all Sha.first (Sha.pad l) q) 64)) := Lib.hid (by rw [hws]; exact HMIX.out)
                      obtain ⟨V0, hV0⟩ : ∃ V0, V0 = Sha.all Sha.first (Sha.pad l) q := ⟨_, rfl⟩
                      rw [← hV0] at HADD BB hV
                      clear hws hown hlen HMIX HO hV0 hkg hn
                      obtain ⟨w7, rfl⟩ : ∃ w7 : World, w7 = wr := ⟨_, rfl⟩
                      have BH7 := BB.out.below hby
                      obtain ⟨a0, a1, a2, a3, a4, a5, a6, a7⟩ := BH7.eight
                      have hlt7 := BH7.lt
                      obtain ⟨w8, hw8⟩ : ∃ w8, w8 = w7.alloc (.cells #[.int .u32 V0.a, .int .u32 V0.b, .int .u32 V0.c, .int .u32 V0.d, .int .u32 V0.e, .int .u32 V0.f, .int .u32 V0.g, .int .u32 V0.h] 113) := ⟨_, rfl⟩
                      have hb8 : Below wo.heap.size wo w8 := by rw [hw8]; exact hby.alloc hby.size _
                      have hs8 : w8.heap.size = w7.heap.size + 1 := by rw [hw8]; simp
                      have BV8 : BlkW w8 w7.heap.size 113 (Sha.vs (Sha.steps ws V0 0)) := by rw [hw8]; exact heap_alloc_new w7 _
                      have BH8 : BlkW w8 wp.heap.size 113 (Sha.vs V0) := BB.out.below hb8
                      have HO8 := Lib.hid (HOO.out.then_below hb8)
                      have HWC8 : Hid (∀ wx, Only w7.heap.size w8 wx → ∀ i, i < 64 → wx.cell? ⟨gw, i, none⟩ = some (.int .u32 (ws.getD i 0))) := Lib.hid fun wx ho i hi => (ho.keep (p := ⟨gw, i, none⟩) (by show gw < _; omega) (by show gw ≠ _; omega)).trans (by rw [hw8]; exact ((Below.refl _ _).alloc (Nat.le_refl _) _ |>.cell (p := ⟨gw, i, none⟩) hgw1).trans (HWC.out i hi))
                      have HTK8 : Hid (∀ wx, Only w7.heap.size w8 wx → ∀ i, i < 64 → wx.cell? ⟨1, i, none⟩ = some (.int .u32 (Sha.rounds.getD i 0))) := Lib.hid fun wx ho i hi => HTK.out wx (HO8.out.then_only ho (Or.inr (by have := hby.size; have := hO0; omega))) i hi
                      have hgh7 : wp.heap.size ≠ w7.heap.size := by omega
                      have hby8 : wm.heap.size ≤ w7.heap.size := by have := hby.size; omega
                      clear HWC hgw2 hgw3
                      go_wp2_with fail
                      rw [← hw8]
                      clear hw8 a0 a1 a2 a3 a4 a5 a6 a7 BH7 hby hby'
                      go_loopg [16] 64 (fun g s16 wx => ∃ i : Nat, i + g = 64 ∧ s16 = .int .i64 i ∧ Only w7.heap.size w8 wx ∧ BlkW wx w7.heap.size 113 (Sha.vs (Sha.steps ws V0 i)))
                      case atStart => exact ⟨0, by omega, rfl, Only.refl _ _, BV8⟩
                      case round =>
                        obtain ⟨i, hig, rfl, hO, BVx⟩ := hrel
                        clear BV8
                        cases gk with
                        | zero =>
                          obtain rfl : i = 64 := by omega
                          obtain ⟨V, hVV⟩ : ∃ V, V = Sha.steps ws V0 64 := ⟨_, rfl⟩
                          have HMM : Hid (Sha.all Sha.first (Sha.pad l) (q + 1) = Sha.add V0 V) := Lib.hid (by rw [hVV]; exact HADD.out)
                          rw [← hVV] at BVx
                          have BHx : BlkW wr wp.heap.size 113 ((Sha.vs (Sha.add V0 V)).take 0 ++ (Sha.vs V0).drop 0) := (hO.block _ BH8.lt hgh7).trans BH8
                          have hOm : Only wp.heap.size wm wr := HO8.out.then_only hO (Or.inr (by have := hby8; omega))
                          clear hVV HADD hO HWC8 HTK8 HWB BH8
                          go_wp2_with fail
                          go_loopg [20] 8 (fun g s20 wx => ∃ i : Nat, i + g = 8 ∧ s20 = .int .i64 i ∧ Only wp.heap.size wm wx ∧ BlkW wx w7.heap.size 113 (Sha.vs V) ∧ BlkW wx wp.heap.size 113 ((Sha.vs (Sha.add V0 V)).take i ++ (Sha.vs V0).drop i))
                          case atStart => exact ⟨0, by omega, rfl, hOm, BVx, BHx⟩
                          case round =>
                            obtain ⟨i, hig, rfl, hOx, BVy, BHy⟩ := hrel
                            clear hOm BVx BHx
                            cases gk with
                            | zero =>
                              obtain rfl : i = 8 := by omega
                              have HBH := Lib.hid (BHy.fit (show _ = Sha.vs (Sha.all Sha.first (Sha.pad l) (q + 1)) by rw [HMM.out]; simp [Sha.vs]))
                              clear BHy
                              have hMb : M ≤ 4294967360 := by have := HMK.out; omega
                              go_wp2_with fail
                              go_roundg ga
                              case measure => omega
                              case rel => exact ⟨q + 1, a + 64, by omega, by have := HA.out; omega, by go_num, hOx, HBH.out⟩
                            | succ g =>
                              have hi : i < 8 := by omega
                              have hiz : (i : Int) < 8 := by omega
                              have c0 := BVy.cell (i := i) (by simp [Sha.vs]; omega)
                              have c1 := BHy.cell (i := i) (by simp [Sha.vs]; omega)
                              rw [mid_get (l := Sha.vs (Sha.add V0 V)) (m := Sha.vs V0) rfl (by simp [Sha.vs]; omega)] at c1
                              have HAA := Lib.hid (Sha.add_at V0 V i hi)
                              generalize (Sha.vs V).getD i 0 = y at c0 HAA
                              generalize (Sha.vs V0).getD i 0 = x at c1 HAA
                              have z1 := BHy.unfrozen i
                              have hlt := BHy.lt
                              have BB0 := Lib.hid BVy
                              have BB1 := Lib.hid BHy
                              have HOx := Lib.hid hOx
                              clear BVy BHy hOx
                              go_wp2_with fail
                              go_region
                              all_goals
                                go_wp2_with fail
                                go_roundg g
                                case measure => omega
                                case rel => exact ⟨i + 1, by omega, rfl, (HOx.out.drewN _).setCell (Or.inl rfl) _, (BB0.out.drewN _).other (by first | exact hgh7 | (simp; omega)) _, ((BB1.out.drewN _).put i _).fit (by rw [HAA.out]; exact mid_set (l := Sha.vs (Sha.add V0 V)) (m := Sha.vs V0) rfl (by simp [Sha.vs]; omega))⟩
                        | succ g =>
                          have hi : i < 64 := by omega
                          have hiz : (i : Int) < 64 := by omega
                          have hVV := hV.out.steps ws i
                          have hkx := HTK8.out wr hO i hi
                          have hwx := HWC8.out wr hO i hi
                          have HN : Hid (Sha.steps ws V0 (i + 1) = Sha.step (Sha.steps ws V0 i) (Sha.rounds.getD i 0) (ws.getD i 0)) := Lib.hid rfl
                          generalize Sha.steps ws V0 i = V at BVx hVV HN
                          have hkb : 0 ≤ Sha.rounds.getD i 0 ∧ Sha.rounds.getD i 0 ≤ 4294967295 := by simpa using bd_get Sha.rounds_bd (Int.le_refl 0) (by decide) i
                          have hxb : 0 ≤ ws.getD i 0 ∧ ws.getD i 0 ≤ 4294967295 := by simpa using bd_get HWB.out (Int.le_refl 0) (by decide) i
                          generalize Sha.rounds.getD i 0 = kx at hkx HN hkb
                          generalize ws.getD i 0 = x at hwx HN hxb
                          obtain ⟨a0, a1, a2, a3, a4, a5, a6, a7⟩ := BVx.eight
                          have hlt := BVx.lt
                          have hgwlt : gw < wr.heap.size := by have := hO.size; omega
                          obtain ⟨VA, VB, VC, VD, VE, VF, VG, VH⟩ := V
                          obtain ⟨⟨A0, A1⟩, ⟨B0, B1⟩, ⟨C0, C1⟩, ⟨D0, D1⟩, ⟨E0, E1⟩, ⟨F0, F1⟩, ⟨G0, G1⟩, ⟨H0, H1⟩⟩ := hVV
                          simp only at a0 a1 a2 a3 a4 a5 a6 a7 A0 A1 B0 B1 C0 C1 D0 D1 E0 E1 F0 F1 G0 G1 H0 H1
                          have BB2 := Lib.hid BVx
                          have HOx := Lib.hid hO
                          obtain ⟨z1, hz1⟩ : ∃ z, z = Sha.b1 VE := ⟨_, rfl⟩
                          obtain ⟨zc, hzc⟩ : ∃ z, z = Sha.ch VE VF VG := ⟨_, rfl⟩
                          obtain ⟨z0, hz0⟩ : ∃ z, z = Sha.b0 VA := ⟨_, rfl⟩
                          obtain ⟨zm, hzm⟩ : ∃ z, z = Sha.maj VA VB VC := ⟨_, rfl⟩
                          obtain ⟨t1, ht1⟩ : ∃ t, t = (VH + z1 + zc + kx + x) % 4294967296 := ⟨_, rfl⟩
                          obtain ⟨t2, ht2⟩ : ∃ t, t = (z0 + zm) % 4294967296 := ⟨_, rfl⟩
                          have TB1 := quiet_one (fun w => rbig1_spec VE w E0 E1) wr
                          have TCH := quiet_one (fun w => rch_spec VE VF VG w E0 E1 F0 F1 G0 G1) wr
                          have TB0 := quiet_at (fun w => rbig0_spec VA w A0 A1) wr
                          have TMJ := quiet_at (fun w => rmaj_spec VA VB VC w A0 A1 B0 B1 C0 C1) wr
                          rw [← hz1] at TB1
                          rw [← hzc] at TCH
                          rw [← hz0] at TB0
                          rw [← hzm] at TMJ
                          have hs1 : IntKind.u32.wrap (IntKind.u32.wrap (IntKind.u32.wrap (IntKind.u32.wrap (VH + z1) + zc) + kx) + x) = t1 := by rw [IntKind.wrap_u32, IntKind.wrap_u32, IntKind.wrap_u32, IntKind.wrap_u32, ht1]; omega
                          have hs3 : ((VH + z1 + zc + kx) % 4294967296 + x) % 4294967296 = t1 := by rw [ht1]; omega
                          have hs2 : IntKind.u32.wrap (z0 + zm) = t2 := by rw [IntKind.wrap_u32, ht2]
                          have HSTEP : Hid ([(t1 + t2) % 4294967296, VA, VB, VC, (VD + t1) % 4294967296, VE, VF, VG] = Sha.vs (Sha.step ⟨VA, VB, VC, VD, VE, VF, VG, VH⟩ kx x)) := Lib.hid (by
                            unfold Sha.vs Sha.step
                            simp only [← hz1, ← hzc, ← hz0, ← hzm, ← ht1, ← ht2])
                          have HT1 := Lib.hid ht1
                          have t1b : 0 ≤ t1 ∧ t1 ≤ 4294967295 := by omega
                          have t2b : 0 ≤ t2 ∧ t2 ≤ 4294967295 := by omega
                          clear BVx hO hz1 hzc hz0 hzm ht1 ht2
                          go_wp2_with fail
                          go_quiet ((with_reducible first | exact TB1.out _ | exact TCH.out _))
                          go_wp2_with fail
                          go_quiet ((with_reducible first | exact TB0.out _ _ | exact TMJ.out _ _))
                          clear TB1 TCH TB0 TMJ hs1 hs2 hs3 hkx hwx a0 a1 a2 a3 a4 a5 a6 a7
                          go_wp2_with fail
                          go_loopg [19] 7 (fun g s19 wx => ∃ m j : Nat, m + g = 7 ∧ j + m = 7 ∧ s19 = .int .i64 j ∧ Only w7.heap.size w8 wx ∧ BlkW wx w7.heap.size 113 (Sha.sh (Sha.vs ⟨VA, VB, VC, VD, VE, VF, VG, VH⟩) m))
                          case atStart => exact ⟨0, 7, by omega, rfl, rfl, (HOx.out.drewN _).drewN _, (BB2.out.drewN _).drewN _⟩
                          case round =>
                            obtain ⟨m, j, hmg, hjm, rfl, hOy, BVy⟩ := hrel
                            cases gk with
                            | zero =>
                              obtain rfl : m = 7 := by omega
                              obtain rfl : j = 0 := by omega
                              have BVz := BVy.fit (Sha.sh_end ⟨VA, VB, VC, VD, VE, VF, VG, VH⟩)
                              have c4 := BVz.cell (i := 4) (by simp)
                              have c0 := BVz.cell (i := 0) (by simp)
                              simp only [List.getD_cons_zero, List.getD_cons_succ] at c4 c0
                              have y4 := BVz.unfrozen 4
                              have y0 := BVz.unfrozen 0
                              have hltz := BVz.lt
                              have BB3 := Lib.hid BVz
                              have HOy := Lib.hid hOy
                              obtain ⟨t1l, t1u⟩ := t1b
                              obtain ⟨t2l, t2u⟩ := t2b
                              clear BVy BVz hOy BB2 HOx
                              go_wp2_with fail
                              go_roundg g
                              case measure => omega
                              case rel => exact ⟨i + 1, by omega, by go_num, (HOy.out.setCell (Or.inl rfl) _).setCell (Or.inl rfl) _, ((BB3.out.put 4 _).put 0 _).fit (by
                                rw [HN.out, ← HSTEP.out]
                                have hT := HT1.out
                                have h1 : (VD + (VH + z1 + zc + kx + x)) % 4294967296 = (VD + t1) % 4294967296 := by omega
                                have h2 : (VH + z1 + zc + kx + x + t2) % 4294967296 = (t1 + t2) % 4294967296 := by omega
                                rw [h1, h2]; rfl)⟩
                            | succ g =>
                              obtain ⟨p, rfl⟩ : ∃ p, j = p + 1 := ⟨j - 1, by omega⟩
                              have hp : p < 7 := by omega
                              have hmp : m = 6 - p := by omega
                              have hpz : (p : Int) < 7 := by omega
                              have cp := BVy.cell (i := p) (by rw [Sha.sh_len _ _ (by omega)]; omega)
                              have hget := Sha.sh_get ⟨VA, VB, VC, VD, VE, VF, VG, VH⟩ m (by omega)
                              have hset := Sha.sh_set ⟨VA, VB, VC, VD, VE, VF, VG, VH⟩ m (by omega)
                              rw [show 6 - m = p by omega] at hget hset
                              rw [show 7 - m = p + 1 by omega] at hset
                              rw [hget] at cp
                              have cj := BVy.cell (i := p + 1) (by rw [Sha.sh_len _ _ (by omega)]; omega)
                              have zj := BVy.unfrozen (p + 1)
                              have hltz := BVy.lt
                              have HSET := Lib.hid hset
                              generalize (Sha.vs ⟨VA, VB, VC, VD, VE, VF, VG, VH⟩).getD p 0 = vp at cp HSET
                              generalize (Sha.sh (Sha.vs ⟨VA, VB, VC, VD, VE, VF, VG, VH⟩) m).getD (p + 1) 0 = vo at cj
                              have BB3 := Lib.hid BVy
                              have HOy := Lib.hid hOy
                              clear BVy hOy hget hset hmp
                              go_wp2_with fail
                              go_roundg g
                              case measure => omega
                              case rel => exact ⟨m + 1, p, by omega, by omega, by go_num, HOy.out.setCell (Or.inl rfl) _, (BB3.out.put (p + 1) _).fit HSET.out⟩
                    | succ g =>

                      have hk : k < 48 := by omega
                      have hnz : (n : Int) < 64 := by omega
                      obtain ⟨gw, rfl, hgw0, hgw1, hgw2, hgw3⟩ := own_block hown (by omega)
                      obtain ⟨q0, hq0⟩ : ∃ q, q = k := ⟨_, rfl⟩
                      obtain ⟨q1, hq1⟩ : ∃ q, q = k + 1 := ⟨_, rfl⟩
                      obtain ⟨q9, hq9⟩ : ∃ q, q = k + 9 := ⟨_, rfl⟩
                      obtain ⟨q14, hq14⟩ : ∃ q, q = k + 14 := ⟨_, rfl⟩
                      have w1 : IntKind.i64.wrap ((n : Int) - 15) = (q1 : Int) := by rw [IntWalk.i64_in _ (by omega)]; omega
                      have w14 : IntKind.i64.wrap ((n : Int) - 2) = (q14 : Int) := by rw [IntWalk.i64_in _ (by omega)]; omega
                      have w0 : IntKind.i64.wrap ((n : Int) - 16) = (q0 : Int) := by rw [IntWalk.i64_in _ (by omega)]; omega
                      have w9 : IntKind.i64.wrap ((n : Int) - 7) = (q9 : Int) := by rw [IntWalk.i64_in _ (by omega)]; omega
                      have u0 : (q0 : Int) < (n : Int) := by omega
                      have u1 : (q1 : Int) < (n : Int) := by omega
                      have u9 : (q9 : Int) < (n : Int) := by omega
                      have u14 : (q14 : Int) < (n : Int) := by omega
                      have c0 := own_u32 hown (j := q0) (by omega)
                      have c1 := own_u32 hown (j := q1) (by omega)
                      have c9 := own_u32 hown (j := q9) (by omega)
                      have c14 := own_u32 hown (j := q14) (by omega)
                      have HBD : ∀ q, 0 ≤ (Sha.sched (Sha.words b) k).getD q 0 ∧ (Sha.sched (Sha.words b) k).getD q 0 ≤ 4294967295 := fun q => by simpa using bd_get (Sha.sched_bd (Sha.words_bd HBB.out) k) (Int.le_refl 0) (by decide) q
                      obtain ⟨d0l, d0u⟩ := HBD q0
                      obtain ⟨d1l, d1u⟩ := HBD q1
                      obtain ⟨d9l, d9u⟩ := HBD q9
                      obtain ⟨d14l, d14u⟩ := HBD q14
                      obtain ⟨x0, hx0⟩ : ∃ x, x = (Sha.sched (Sha.words b) k).getD q0 0 := ⟨_, rfl⟩
                      obtain ⟨x1, hx1⟩ : ∃ x, x = (Sha.sched (Sha.words b) k).getD q1 0 := ⟨_, rfl⟩
                      obtain ⟨x9, hx9⟩ : ∃ x, x = (Sha.sched (Sha.words b) k).getD q9 0 := ⟨_, rfl⟩
                      obtain ⟨x14, hx14⟩ : ∃ x, x = (Sha.sched (Sha.words b) k).getD q14 0 := ⟨_, rfl⟩
                      rw [← hx0] at c0 d0l d0u
                      rw [← hx1] at c1 d1l d1u
                      rw [← hx9] at c9 d9l d9u
                      rw [← hx14] at c14 d14l d14u
                      obtain ⟨y, hy⟩ : ∃ y, y = (x0 + x9 + Sha.s0 x1 + Sha.s1 x14) % 4294967296 := ⟨_, rfl⟩
                      have HS : Hid (Sha.sched (Sha.words b) (k + 1) = Sha.sched (Sha.words b) k ++ [y]) := Lib.hid (by rw [hy, hx0, hx1, hx9, hx14, hq0, hq1, hq9, hq14]; rfl)
                      have hyw : IntKind.u32.wrap (IntKind.u32.wrap (IntKind.u32.wrap (Sha.s1 x14 + x9) + Sha.s0 x1) + x0) = y := by rw [IntKind.wrap_u32, IntKind.wrap_u32, IntKind.wrap_u32, hy]; omega
                      have T1 := Lib.hid fun w => rsmall0_spec x1 w d1l d1u
                      have T14 := Lib.hid fun w => rsmall1_spec x14 w d14l d14u
                      have HN := Lib.hid hn
                      have KF : Hid (∀ w' : World, Below wr.heap.size wr w' → w'.cell? ⟨gw, q0, none⟩ = some (.int .u32 x0) ∧ w'.cell? ⟨gw, q1, none⟩ = some (.int .u32 x1) ∧ w'.cell? ⟨gw, q9, none⟩ = some (.int .u32 x9) ∧ w'.cell? ⟨gw, q14, none⟩ = some (.int .u32 x14)) := Lib.hid fun w' hb => ⟨(hb.cell (p := ⟨gw, q0, none⟩) hgw1).trans c0, (hb.cell (p := ⟨gw, q1, none⟩) hgw1).trans c1, (hb.cell (p := ⟨gw, q9, none⟩) hgw1).trans c9, (hb.cell (p := ⟨gw, q14, none⟩) hgw1).trans c14⟩
                      have KC : Hid (∀ w' : World, (∀ j u, ((Sha.sched (Sha.words b) k).map (Value.int .u32))[j]? = some u → w'.cell? ⟨gw, j, none⟩ = some u) → w'.cell? ⟨gw, q0, none⟩ = some (.int .u32 x0) ∧ w'.cell? ⟨gw, q1, none⟩ = some (.int .u32 x1) ∧ w'.cell? ⟨gw, q9, none⟩ = some (.int .u32 x9) ∧ w'.cell? ⟨gw, q14, none⟩ = some (.int .u32 x14)) := Lib.hid fun w' hb => ⟨hb q0 _ (by rw [hx0]; exact map_u32 (by omega)), hb q1 _ (by rw [hx1]; exact map_u32 (by omega)), hb q9 _ (by rw [hx9]; exact map_u32 (by omega)), hb q14 _ (by rw [hx14]; exact map_u32 (by omega))⟩
                      generalize Sha.s0 x1 = z1 at hyw T1
                      generalize Sha.s1 x14 = z14 at hyw T14
                      clear hq0 hq1 hq9 hq14 hx0 hx1 hx9 hx14 hy hn hown HBD hlen
                      go_wp2_with fail
                      go_region_held3 (fun w' => w'.cell? ⟨gw, q0, none⟩ = some (.int .u32 x0) ∧ w'.cell? ⟨gw, q1, none⟩ = some (.int .u32 x1) ∧ w'.cell? ⟨gw, q9, none⟩ = some (.int .u32 x9) ∧ w'.cell? ⟨gw, q14, none⟩ = some (.int .u32 x14)) (first | exact KC.out _ hkp | exact KF.out _ (by repeat (first | with_reducible exact Below.refl wr.heap.size wr | with_reducible refine bel_al ?_ _ | with_reducible refine bel_dr ?_ | with_reducible refine bel_drN ?_ _)))
                        (first
                          | (with_reducible refine (T1.out _).mono ?_; rintro e w' ⟨rfl, rfl⟩)
                          | (with_reducible refine (T14.out _).mono ?_; rintro e w' ⟨rfl, rfl⟩)
                          | (refine step_app_in _ (by rfl) (.tmp 92) (.tmp 118) 117 (by rfl) wo (by repeat (first | with_reducible exact hby | with_reducible refine bel_al ?_ _ | with_reducible refine bel_dr ?_ | with_reducible refine bel_drN ?_ _)) 23 (.int .u32 0) 4 Tryd.underlying117 sref_info32 rfl gw n cw ((Sha.sched (Sha.words b) k).map (.int .u32)) (by rfl) (by repeat (first | with_reducible exact HO.out | with_reducible refine own_al ?_ _ | with_reducible refine own_dr ?_ | with_reducible refine own_drN ?_ _)) _ 1 1 [.int .u32 y] (by rfl) (by repeat (first | with_reducible exact rd_one _ _ _ | with_reducible refine Rd.drew ?_ | with_reducible refine Rd.drewN ?_ _)) (by decide) (one_u32 _) (by unfold maxLen; omega) (by omega) ?_; intro A5 c5 w5 hown5 hbn hkp))
                      all_goals
                        go_wp2_with fail
                        go_roundg g
                        case measure => omega
                        case rel => exact ⟨k + 1, n + 1, A5, c5, by omega, by have := HN.out; omega, by go_num, rfl, by rw [HS.out, List.map_append]; exact hown5, hbn⟩
                | succ g =>
                  have hi : i < 16 := by omega
                  have hiz : (i : Int) < 16 := by omega
                  obtain ⟨wi, rfl⟩ : ∃ wi : World, wi = wr := ⟨_, rfl⟩
                  go_wp2_with fail
                  go_loopg [12, 13] 4 (fun g s12 s13 wx => ∃ (j : Nat) (x : Int), j + g = 4 ∧ x = Sha.wpart (Sha.pad l) (a + 4 * i) j ∧ s13 = .int .i64 j ∧ s12 = .int .u32 x ∧ wx = wi)
                  case atStart => exact ⟨0, 0, by omega, rfl, rfl, rfl, rfl⟩
                  case round =>
                    obtain ⟨j, x, hjg, hx, rfl, rfl, rfl⟩ := hrel
                    have HX := Lib.hid hx
                    clear hx
                    cases gk with
                    | zero =>
                      obtain rfl : j = 4 := by omega
                      have HWS : Hid ((Sha.words b).take (i + 1) = (Sha.words b).take i ++ [x]) := Lib.hid (by rw [HX.out, HW.out i hi]; exact Sha.words_snoc b i hi)
                      clear HX
                      go_wp2_with (at_builtin; refine wpList_app _ rfl (.tmp 84) (.tmp 86) 117 rfl wo (by exact hby.alloc hby' _) 23 (.int .u32 0) 1 4 Tryd.underlying117 sref_info32 rfl (by decide) _ i (((Sha.words b).take i).map (.int .u32)) rfl (by exact HO.out.alloc _) (some ⟨_, 0, none⟩) 1 1 [.int .u32 x] rfl (by exact rd_one _ _ _) (one_u32 _) (by unfold maxLen; omega) (by omega) ?_; intro A4 c4 w4 hown4 hb4 hg4 hat4)
                      go_roundg g
                      case measure => omega
                      case rel => exact ⟨i + 1, A4, c4, by omega, rfl, rfl, by rw [HWS.out, List.map_append]; exact hown4, hb4⟩
                    | succ g =>
                      have hj : j < 4 := by omega
                      have hjz : (j : Int) < 4 := by omega
                      have hMb : M ≤ 4294967360 := by have := HMK.out; omega
                      have hd : a + 4 * i + j < M := by omega
                      have hdz : (a : Int) + 4 * (i : Int) + (j : Int) < (M : Int) := by omega
                      have hc := HMO.out wr hby (a + 4 * i + j) hd
                      have hyb := HPB.out.getD (a + 4 * i + j)
                      have hxb := Sha.wpart_bd3 HPB.out (a + 4 * i) hj
                      rw [← HX.out] at hxb
                      have HN : Hid (x * 256 + (Sha.pad l).getD (a + 4 * i + j) 0 = Sha.wpart (Sha.pad l) (a + 4 * i) (j + 1)) := Lib.hid (by rw [HX.out]; rfl)
                      generalize (Sha.pad l).getD (a + 4 * i + j) 0 = y at hc hyb HN
                      obtain ⟨hy0, hy1⟩ := hyb
                      obtain ⟨hx0, hx1⟩ := hxb
                      go_wp2_with fail
                      go_roundg g
                      case measure => omega
                      case rel => exact ⟨j + 1, x * 256 + y, by omega, HN.out, by go_num, val_int (by omega), rfl⟩
        | succ g =>
          have hi : i < 8 := by omega
          have hiz : (i : Int) < 8 := by omega
          clear hM
          go_wp2_with fail
          obtain ⟨wo, rfl⟩ : ∃ wo : World, wo = wr := ⟨_, rfl⟩
          go_loopg [6, 7] (7 - i) (fun g s6 s7 wx => ∃ m D j : Nat, i + m + g = 7 ∧ j = i + m ∧ D = n * 8 / 256 ^ m ∧ s7 = .int .i64 (j : Int) ∧ s6 = .int .i64 (D : Int) ∧ wx = wo)
          case atStart => exact ⟨0, n * 8, i, by omega, rfl, by simp, rfl, val_int (by push_cast; rfl), rfl⟩
          case round =>
            obtain ⟨m, D, j, hmg, hj, hD, rfl, rfl, rfl⟩ := hrel
            have hDb : D ≤ 34359738360 := by
              rw [hD]
              exact Nat.le_trans (Nat.div_le_self _ _) (by omega)
            cases gk with
            | zero =>
              have hj7 : j = 7 := by omega
              have HD : Hid (((D % 256 : Nat) : Int) = ((n * 8 / 256 ^ (7 - i) % 256 : Nat) : Int)) := Lib.hid (by rw [hD, show m = 7 - i by omega])
              have HT8 := Lib.hid (Sha.tail8_snoc n i hi)
              have hwm : IntKind.u8.wrap ((D : Int) % 256) = ((D % 256 : Nat) : Int) := by rw [IntKind.wrap_u8]; omega
              obtain rfl := hj7
              clear hj hD hmg
              go_wp2_with (at_builtin; refine wpList_app _ rfl (.tmp 50) (.tmp 54) 27 rfl w (by exact hby.alloc hbx' _) 5 (.int .u8 0) 1 1 Tryd.underlying27 pad_info8 rfl (by decide) _ M (bs (Sha.mz l k ++ (Sha.tail8 n).take i)) rfl (by exact HO3.out.alloc _) (some ⟨_, 0, none⟩) 1 1 [.int .u8 ((D : Int) % 256)] rfl (by exact rd_one _ _ _) (one_u8 _) (by unfold maxLen; omega) (by omega) ?_; intro A4 c4 w4 hown4 hb4 hg4 hat4)
              go_roundg g
              case measure => omega
              case rel => exact ⟨i + 1, M + 1, A4, c4, by omega, by have := HM.out; omega, rfl, rfl, by rw [HT8.out, ← HD.out, ← List.append_assoc, bs_append]; exact hown4, hb4⟩
            | succ g =>
              have hjz : (j : Int) < 7 := by omega
              have HD : Hid (D / 256 = n * 8 / 256 ^ (m + 1)) := Lib.hid (by rw [hD, Nat.div_div_eq_div_mul, Nat.pow_succ])
              have HJ := Lib.hid hj
              clear hD hj
              go_wp2_with fail
              go_roundg g
              case measure => omega
              case rel => exact ⟨m + 1, D / 256, j + 1, by omega, by have := HJ.out; omega, HD.out, by go_num, by go_num, rfl⟩
    | succ g =>
      have ht : ((L : Int) % 64 != 56) = true := by
        have := (HZM.out k (by omega)).1
        rw [bne_iff_ne]; omega
      have HL := Lib.hid hL
      have hLb : L ≤ 4294967360 := by omega
      clear hL
      go_wp2_with (at_builtin; refine wpList_app _ rfl (.tmp 32) (.tmp 33) 27 rfl w (by exact hbx.alloc hbx' _) 5 (.int .u8 0) 1 1 Tryd.underlying27 pad_info8 rfl (by decide) _ L (bs (Sha.mz l k)) rfl (by exact HO.out.alloc _) (some ⟨_, 0, none⟩) 1 1 [.int .u8 0] rfl (by exact rd_one _ _ _) (one_u8 _) (by unfold maxLen; omega) (by omega) ?_; intro A3 c3 w3 hown3 hb3 hg3 hat3)
      go_roundg g
      case measure => omega
      case rel => exact ⟨k + 1, L + 1, A3, c3, by omega, by have := HL.out; omega, rfl, by rw [bs_one, ← bs_append, Sha.mz_snoc] at hown3; exact hown3, hb3⟩
end Go.Proofs.YtpidpbjbgjkaaaaDoor
