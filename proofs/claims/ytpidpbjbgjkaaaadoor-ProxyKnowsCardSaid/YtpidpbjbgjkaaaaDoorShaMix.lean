/- The walk of (*sha.hash).mix. -/
import Derived.Test.YtpidpbjbgjkaaaaDoorShaSpread
import Derived.Test.YtpidpbjbgjkaaaaDoorOwn
namespace Go.Proofs.YtpidpbjbgjkaaaaDoor
open Go.RowKit
set_option linter.unusedVariables false
/-- Of what was there at w only the block g has turned. -/
structure Only (g : Nat) (w w' : World) : Prop where
  os : w'.os = w.os
  tape : w'.tape = w.tape
  output : w'.output = w.output
  size : w.heap.size ≤ w'.heap.size
  block : ∀ k, k < w.heap.size → k ≠ g → w'.heap[k]? = w.heap[k]?
theorem Only.of_below {g : Nat} {w w' : World} (h : Below w.heap.size w w') : Only g w w' := ⟨h.os, h.tape, h.output, h.size, fun k hk _ => h.block k hk⟩
theorem Only.setCell {g : Nat} {a w : World} (h : Only g a w) {p : Addr} (hp : p.block = g ∨ a.heap.size ≤ p.block) (u : Value) : Only g a (w.setCell p u) :=
  ⟨h.os, h.tape, h.output, by simpa using h.size, fun k hk hne => (Below.heap_setCell w p u k (by omega)).trans (h.block k hk hne)⟩
theorem Only.drewN {g : Nat} {a w : World} (h : Only g a w) (k : Nat) : Only g a (w.drewN k) := ⟨h.os, h.tape, h.output, h.size, h.block⟩
theorem Only.below {g B : Nat} {w0 w w' : World} (h : Only g w w') (hb : Below B w0 w) (hB : B ≤ g) (hs : B ≤ w.heap.size) : Below B w0 w' :=
  ⟨h.os.trans hb.os, h.tape.trans hb.tape, h.output.trans hb.output, Nat.le_trans hb.size h.size, fun k hk => (h.block k (by omega) (by omega)).trans (hb.block k hk)⟩
theorem Only.keep {g : Nat} {w w' : World} (h : Only g w w') {p : Addr} (hp : p.block < w.heap.size) (hne : p.block ≠ g) : w'.cell? p = w.cell? p := World.cell?_of_block (w := w) (h.block p.block hp hne)
theorem bel_into {B : Nat} {w w1 w2 : World} (h : Below B w w1) (hB : B ≤ w1.heap.size) (k : Below w1.heap.size w1 w2) : Below B w w2 := h.trans (k.mono hB)
namespace Sha
def vs (v : V) : List Int := [v.a, v.b, v.c, v.d, v.e, v.f, v.g, v.h]
structure V.ok (v : V) : Prop where
  a : 0 ≤ v.a ∧ v.a ≤ 4294967295
  b : 0 ≤ v.b ∧ v.b ≤ 4294967295
  c : 0 ≤ v.c ∧ v.c ≤ 4294967295
  d : 0 ≤ v.d ∧ v.d ≤ 4294967295
  e : 0 ≤ v.e ∧ v.e ≤ 4294967295
  f : 0 ≤ v.f ∧ v.f ≤ 4294967295
  g : 0 ≤ v.g ∧ v.g ≤ 4294967295
  h : 0 ≤ v.h ∧ v.h ≤ 4294967295
theorem V.ok.step {v : V} (H : v.ok) (k w : Int) : (Sha.step v k w).ok := by
  unfold Sha.step
  exact ⟨by simp only; omega, H.a, H.b, H.c, by simp only; omega, H.e, H.f, H.g⟩
theorem V.ok.steps {v : V} (H : v.ok) (ws : List Int) (n : Nat) : (Sha.steps ws v n).ok := by
  induction n with
  | zero => exact H
  | succ n ih => exact ih.step _ _
theorem V.ok.add (v u : V) : (Sha.add v u).ok := by
  unfold Sha.add
  exact ⟨by simp only; omega, by simp only; omega, by simp only; omega, by simp only; omega, by simp only; omega, by simp only; omega, by simp only; omega, by simp only; omega⟩
theorem rounds_bd : ∀ x ∈ rounds, 0 ≤ x ∧ x ≤ 4294967295 := by decide
end Sha
theorem BlkW.eight {w : World} {g : Nat} {T : TypeId} {v : Sha.V} (h : BlkW w g T (Sha.vs v)) :
    w.cell? ⟨g, 0, none⟩ = some (.int .u32 v.a) ∧ w.cell? ⟨g, 1, none⟩ = some (.int .u32 v.b) ∧ w.cell? ⟨g, 2, none⟩ = some (.int .u32 v.c) ∧ w.cell? ⟨g, 3, none⟩ = some (.int .u32 v.d) ∧
    w.cell? ⟨g, 4, none⟩ = some (.int .u32 v.e) ∧ w.cell? ⟨g, 5, none⟩ = some (.int .u32 v.f) ∧ w.cell? ⟨g, 6, none⟩ = some (.int .u32 v.g) ∧ w.cell? ⟨g, 7, none⟩ = some (.int .u32 v.h) :=
  ⟨h.cell (i := 0) (by simp [Sha.vs]), h.cell (i := 1) (by simp [Sha.vs]), h.cell (i := 2) (by simp [Sha.vs]), h.cell (i := 3) (by simp [Sha.vs]), h.cell (i := 4) (by simp [Sha.vs]), h.cell (i := 5) (by simp [Sha.vs]), h.cell (i := 6) (by simp [Sha.vs]), h.cell (i := 7) (by simp [Sha.vs])⟩
theorem BlkW.put8 {w : World} {g : Nat} {T : TypeId} {v : Sha.V} (h : BlkW w g T (Sha.vs v)) (x0 x1 x2 x3 x4 x5 x6 x7 : Int) :
    BlkW ((((((((w.setCell ⟨g, 0, none⟩ (.int .u32 x0)).setCell ⟨g, 1, none⟩ (.int .u32 x1)).setCell ⟨g, 2, none⟩ (.int .u32 x2)).setCell ⟨g, 3, none⟩ (.int .u32 x3)).setCell ⟨g, 4, none⟩ (.int .u32 x4)).setCell ⟨g, 5, none⟩ (.int .u32 x5)).setCell ⟨g, 6, none⟩ (.int .u32 x6)).setCell ⟨g, 7, none⟩ (.int .u32 x7)) g T [x0, x1, x2, x3, x4, x5, x6, x7] :=
  ((((((((h.put 0 x0).put 1 x1).put 2 x2).put 3 x3).put 4 x4).put 5 x5).put 6 x6).put 7 x7).fit rfl
theorem Below.put8 {B g : Nat} {a w : World} (h : Below B a w) (hg : B ≤ g) (x0 x1 x2 x3 x4 x5 x6 x7 : Value) :
    Below B a ((((((((w.setCell ⟨g, 0, none⟩ x0).setCell ⟨g, 1, none⟩ x1).setCell ⟨g, 2, none⟩ x2).setCell ⟨g, 3, none⟩ x3).setCell ⟨g, 4, none⟩ x4).setCell ⟨g, 5, none⟩ x5).setCell ⟨g, 6, none⟩ x6).setCell ⟨g, 7, none⟩ x7) :=
  (((((((h.setCell hg x0).setCell hg x1).setCell hg x2).setCell hg x3).setCell hg x4).setCell hg x5).setCell hg x6).setCell hg x7
theorem BlkW.froz8 {w : World} {g : Nat} {T : TypeId} {v : Sha.V} (h : BlkW w g T (Sha.vs v)) :
    w.frozen? ⟨g, 0, none⟩ = false ∧ w.frozen? ⟨g, 1, none⟩ = false ∧ w.frozen? ⟨g, 2, none⟩ = false ∧ w.frozen? ⟨g, 3, none⟩ = false ∧ w.frozen? ⟨g, 4, none⟩ = false ∧ w.frozen? ⟨g, 5, none⟩ = false ∧ w.frozen? ⟨g, 6, none⟩ = false ∧ w.frozen? ⟨g, 7, none⟩ = false :=
  ⟨h.unfrozen _, h.unfrozen _, h.unfrozen _, h.unfrozen _, h.unfrozen _, h.unfrozen _, h.unfrozen _, h.unfrozen _⟩
theorem index64 (SA : Array Value) (i : Nat) (x : Value) (hi : i < 64) (hx : SA[i]? = some x) (w : World) : (Instr.index 120 (.agg SA) (.int .i64 (i : Int))).run Tryd.prog w = .ok x w := by
  have hu : Tryd.prog.underlying 120 = some (.array 64 23) := by kernel_rfl
  have hs : (sizeOf 23).run Tryd.prog w = .ok 1 w := by kernel_rfl
  simp [Instr.index, run_underlying hu, asIntOf, part, hs, hx]
  omega
theorem quiet_at {f : FuncId} {args : Array Value} {r : Value} (h : ∀ w, Calls Tryd.prog f args w fun e w' => e = .returned r ∧ w = w') (w0 : World) :
    Hid (∀ a q, Calls Tryd.prog f args (w0.drewN (a + q)) fun e w'' => e = .returned r ∧ ∃ m, w'' = w0.drewN (a + m)) := Lib.hid fun a q => (h _).mono fun e w' ⟨h1, h2⟩ => ⟨h1, q, h2.symm⟩
theorem quiet_one {f : FuncId} {args : Array Value} {r : Value} (h : ∀ w, Calls Tryd.prog f args w fun e w' => e = .returned r ∧ w = w') (w0 : World) :
    Hid (∀ q, Calls Tryd.prog f args (w0.drewN q) fun e w'' => e = .returned r ∧ ∃ m, w'' = w0.drewN m) := Lib.hid fun q => (h _).mono fun e w' ⟨h1, h2⟩ => ⟨h1, q, h2.symm⟩
theorem Sha.step_fit {VA VB VC VD VE VF VG VH kx x : Int} (h0 : 0 ≤ VE) (h1 : VE ≤ 4294967295) :
    [(VH + bits .xor .u32 (bits .xor .u32 (Sha.rotr 6 VE) (Sha.rotr 11 VE)) (Sha.rotr 25 VE) + bits .xor .u32 (bits .and .u32 VE VF) (bits .and .u32 (bits .xor .u32 IntKind.u32.max VE) VG) + kx + x + (bits .xor .u32 (bits .xor .u32 (Sha.rotr 2 VA) (Sha.rotr 13 VA)) (Sha.rotr 22 VA) + bits .xor .u32 (bits .xor .u32 (bits .and .u32 VA VB) (bits .and .u32 VA VC)) (bits .and .u32 VB VC))) % 4294967296, VA, VB, VC, (VD + (VH + bits .xor .u32 (bits .xor .u32 (Sha.rotr 6 VE) (Sha.rotr 11 VE)) (Sha.rotr 25 VE) + bits .xor .u32 (bits .and .u32 VE VF) (bits .and .u32 (bits .xor .u32 IntKind.u32.max VE) VG) + kx + x)) % 4294967296, VE, VF, VG] = Sha.vs (Sha.step ⟨VA, VB, VC, VD, VE, VF, VG, VH⟩ kx x) := by
  have hn : bits .xor .u32 IntKind.u32.max VE = 4294967295 - VE := by rw [u32_not]; omega
  rw [hn]
  show _ = Sha.vs (Sha.step ⟨VA, VB, VC, VD, VE, VF, VG, VH⟩ kx x)
  unfold Sha.vs Sha.step Sha.b0 Sha.b1 Sha.ch Sha.maj Sha.xor3
  simp only [List.cons.injEq, and_true, true_and]
  constructor <;> omega
theorem Sha.add_at (v V : Sha.V) (i : Nat) (hi : i < 8) : ((Sha.vs v).getD i 0 + (Sha.vs V).getD i 0) % 4294967296 = (Sha.vs (Sha.add v V)).getD i 0 := by
  rcases (show i = 0 ∨ i = 1 ∨ i = 2 ∨ i = 3 ∨ i = 4 ∨ i = 5 ∨ i = 6 ∨ i = 7 by omega) with rfl | rfl | rfl | rfl | rfl | rfl | rfl | rfl <;> rfl
theorem mid_set {l m : List Int} {i : Nat} (h : l.length = m.length) (hi : i < l.length) : (l.take i ++ m.drop i).set i (l.getD i 0) = l.take (i + 1) ++ m.drop (i + 1) := by
  have e : l.take (i + 1) = l.take i ++ [l[i]] := by rw [List.take_add_one, List.getElem?_eq_getElem hi]; rfl
  rw [List.set_append_right _ _ (by simp; omega), List.length_take, Nat.min_eq_left (by omega), Nat.sub_self, List.drop_eq_getElem_cons (by omega), List.set_cons_zero, e, show l.getD i 0 = l[i] by simp [hi], List.append_assoc]
  rfl
theorem mid_get {l m : List Int} {i : Nat} (h : l.length = m.length) (hi : i < l.length) : (l.take i ++ m.drop i).getD i 0 = m.getD i 0 := by
  rw [List.getD_eq_getElem?_getD, List.getElem?_append_right (by simp; omega), List.length_take, Nat.min_eq_left (by omega), Nat.sub_self, List.getElem?_drop, Nat.add_zero, List.getD_eq_getElem?_getD]
set_option maxRecDepth 8000 in
set_option maxHeartbeats 4000000 in
theorem mix_spec (gh : Nat) (v : Sha.V) (b off c : Nat) (l : List Int) (w : World) (hv : v.ok) (hH : BlkW w gh 115 (Sha.vs v)) (hR : Rd w 1 (some ⟨b, off, none⟩) 64 (bs l)) (hB : isB l)
    (hg : 3 ≤ w.heap.size) (hk : ∀ i, i < 64 → w.cell? ⟨2, i, none⟩ = some (.int .u32 (Sha.rounds.getD i 0))) :
    Calls Tryd.prog 79 #[.pointer (some ⟨gh, 0, none⟩), .slice (some ⟨b, off, none⟩) 64 c] w fun e w' => e = .returned (.tuple #[]) ∧ Only gh w w' ∧ BlkW w' gh 115 (Sha.vs (Sha.mix v l)) := by
  obtain ⟨W, hW⟩ : ∃ W, W = w.alloc (.cells #[.int .u32 v.a, .int .u32 v.b, .int .u32 v.c, .int .u32 v.d, .int .u32 v.e, .int .u32 v.f, .int .u32 v.g, .int .u32 v.h] 113) := ⟨_, rfl⟩
  have hbW : Below w.heap.size w W := by rw [hW]; exact (Below.refl _ _).alloc (Nat.le_refl _) _
  have BV : BlkW W w.heap.size 113 (Sha.vs v) := by
    rw [hW]
    exact heap_alloc_new w _
  have hRW := hR.below hbW
  have hgh := hH.lt
  obtain ⟨ws, hws⟩ : ∃ ws, ws = Sha.sched (Sha.words l) 48 := ⟨_, rfl⟩
  have HC := spread_spec b off c l W hRW hB
  rw [← hws] at HC
  have hwl : ws.length = 64 := by rw [hws, Sha.sched_len, Sha.words_len]
  have hwb : ∀ x ∈ ws, 0 ≤ x ∧ x ≤ 4294967295 := by rw [hws]; exact Sha.sched_bd (Sha.words_bd hB) _
  have HMIX : Hid (Sha.mix v l = Sha.add v (Sha.steps ws v 64)) := Lib.hid (by rw [hws]; rfl)
  clear hws hRW hR hB
  have HK := Lib.hid hk
  have HH := Lib.hid hH
  have HV := Lib.hid hv
  have HWL := Lib.hid hwl
  have HWB := Lib.hid hwb
  obtain ⟨a0, a1, a2, a3, a4, a5, a6, a7⟩ := hH.eight
  clear hk hH hv hwl hwb
  go_enter Tryd.func79, Tryd.ntmps79
  go_wp2_with fail
  rw [← hW]
  clear hW a0 a1 a2 a3 a4 a5 a6 a7
  refine HC.mono ?_
  rintro e w1 ⟨rfl, hb1⟩
  clear HC
  have hbw : Below w.heap.size w w1 := bel_then hbW hb1
  have BV1 : BlkW w1 w.heap.size 113 (Sha.vs (Sha.steps ws v 0)) := BV.below hb1
  clear BV hb1 hbW
  obtain ⟨SA, hSA⟩ : ∃ SA, SA = (ws.map (Value.int .u32)).toArray := ⟨_, rfl⟩
  rw [← hSA]
  have HSA : Hid (∀ i, i < 64 → SA[i]? = some (.int .u32 (ws.getD i 0))) := Lib.hid (by
    intro i hi
    rw [hSA]
    simp [HWL.out, hi])
  clear hSA
  go_wp2_with fail
  go_loopg [18] 64 (fun g s18 wx => ∃ i : Nat, i + g = 64 ∧ s18 = .int .i64 i ∧ Below w.heap.size w wx ∧ BlkW wx w.heap.size 113 (Sha.vs (Sha.steps ws v i)))
  case atStart => exact ⟨0, by omega, rfl, hbw, BV1⟩
  case round =>
    obtain ⟨i, hig, rfl, hbx, BVx⟩ := hrel
    clear hbw BV1
    cases gk with
    | zero =>
      obtain rfl : i = 64 := by omega
      go_wp2_with fail
      obtain ⟨V, hV⟩ : ∃ V, V = Sha.steps ws v 64 := ⟨_, rfl⟩
      have HMM : Hid (Sha.mix v l = Sha.add v V) := Lib.hid (by rw [hV]; exact HMIX.out)
      rw [← hV] at BVx
      clear hV HMIX
      have BH : BlkW wr gh 115 ((Sha.vs (Sha.add v V)).take 0 ++ (Sha.vs v).drop 0) := HH.out.below hbx
      have hgn : ¬ gh = w.heap.size := by omega
      have hO : Only gh w wr := Only.of_below hbx
      clear HH hbx HSA HWL HWB HK
      go_loopg [99] 8 (fun g s99 wx => ∃ i : Nat, i + g = 8 ∧ s99 = .int .i64 i ∧ Only gh w wx ∧ BlkW wx w.heap.size 113 (Sha.vs V) ∧ BlkW wx gh 115 ((Sha.vs (Sha.add v V)).take i ++ (Sha.vs v).drop i))
      case atStart => exact ⟨0, by omega, rfl, hO, BVx, BH⟩
      case round =>
        obtain ⟨i, hig, rfl, hOx, BVy, BHy⟩ := hrel
        clear hO BVx BH
        cases gk with
        | zero =>
          obtain rfl : i = 8 := by omega
          go_wp2_with fail
          go_end0
          exact ⟨rfl, hOx, BHy.fit (by rw [HMM.out]; simp [Sha.vs])⟩
        | succ g =>
          have hi : i < 8 := by omega
          have hiz : (i : Int) < 8 := by omega
          have c0 := BVy.cell (i := i) (by simp [Sha.vs]; omega)
          have c1 := BHy.cell (i := i) (by simp [Sha.vs]; omega)
          rw [mid_get (l := Sha.vs (Sha.add v V)) (m := Sha.vs v) rfl (by simp [Sha.vs]; omega)] at c1
          have HA := Lib.hid (Sha.add_at v V i hi)
          generalize (Sha.vs V).getD i 0 = y at c0 HA
          generalize (Sha.vs v).getD i 0 = x at c1 HA
          have z1 := BHy.unfrozen i
          have hlt := BHy.lt
          have BB0 := Lib.hid BVy
          have BB1 := Lib.hid BHy
          have HO := Lib.hid hOx
          clear BVy BHy hOx
          go_wp2_with fail
          go_region
          all_goals
            go_wp2_with fail
            go_roundg g
            case measure => omega
            case rel => exact ⟨i + 1, by omega, rfl, (HO.out.drewN _).setCell (Or.inl rfl) _, (BB0.out.drewN _).other (by first | exact hgn | (simp; omega)) _, ((BB1.out.drewN _).put i _).fit (by rw [HA.out]; exact mid_set (l := Sha.vs (Sha.add v V)) (m := Sha.vs v) rfl (by simp [Sha.vs]; omega))⟩
    | succ g =>
      have hi : i < 64 := by omega
      have hiz : (i : Int) < 64 := by omega
      have hix := index64 SA i _ hi (HSA.out i hi)
      have hkx : wr.cell? ⟨2, i, none⟩ = some (.int .u32 (Sha.rounds.getD i 0)) := (hbx.cell (p := ⟨2, i, none⟩) (by show (2 : Nat) < _; omega)).trans (HK.out i hi)
      have hVV := HV.out.steps ws i
      have HN : Hid (Sha.steps ws v (i + 1) = Sha.step (Sha.steps ws v i) (Sha.rounds.getD i 0) (ws.getD i 0)) := Lib.hid rfl
      generalize Sha.steps ws v i = V at BVx hVV HN
      have hkb : 0 ≤ Sha.rounds.getD i 0 ∧ Sha.rounds.getD i 0 ≤ 4294967295 := by simpa using bd_get Sha.rounds_bd (Int.le_refl 0) (by decide) i
      have hxb : 0 ≤ ws.getD i 0 ∧ ws.getD i 0 ≤ 4294967295 := by simpa using bd_get HWB.out (Int.le_refl 0) (by decide) i
      generalize Sha.rounds.getD i 0 = kx at hkx HN hkb
      generalize ws.getD i 0 = x at hix HN hxb
      obtain ⟨a0, a1, a2, a3, a4, a5, a6, a7⟩ := BVx.eight
      obtain ⟨z0, z1, z2, z3, z4, z5, z6, z7⟩ := BVx.froz8
      have hlt := BVx.lt
      have BB := Lib.hid BVx
      obtain ⟨VA, VB, VC, VD, VE, VF, VG, VH⟩ := V
      obtain ⟨⟨A0, A1⟩, ⟨B0, B1⟩, ⟨C0, C1⟩, ⟨D0, D1⟩, ⟨E0, E1⟩, ⟨F0, F1⟩, ⟨G0, G1⟩, ⟨H0, H1⟩⟩ := hVV
      simp only at a0 a1 a2 a3 a4 a5 a6 a7 A0 A1 B0 B1 C0 C1 D0 D1 E0 E1 F0 F1 G0 G1 H0 H1
      have T6 := quiet_at (fun w => turn_6 VE w E0 E1) wr
      have T11 := quiet_at (fun w => turn_11 VE w E0 E1) wr
      have T25 := quiet_at (fun w => turn_25 VE w E0 E1) wr
      have T2 := quiet_at (fun w => turn_2 VA w A0 A1) wr
      have T13 := quiet_at (fun w => turn_13 VA w A0 A1) wr
      have T22 := quiet_at (fun w => turn_22 VA w A0 A1) wr
      clear BVx
      go_wp2_with fail
      go_quiet (fail)
      go_wp2_with fail
      go_quiet ((with_reducible first | exact T6.out _ _ | exact T11.out _ _ | exact T25.out _ _))
      go_wp2_with fail
      go_quiet ((with_reducible first | exact T2.out _ _ | exact T13.out _ _ | exact T22.out _ _))
      go_wp2_with fail
      go_roundg g
      case measure => omega
      case rel =>
        refine ⟨i + 1, by omega, rfl, ?_, ?_⟩
        · with_reducible exact Below.put8 (Below.drewNs hbx _) (Nat.le_refl _) _ _ _ _ _ _ _ _
        with_reducible refine ((BB.out.drewN _).put8 _ _ _ _ _ _ _ _).fit ?_
        rw [HN.out]
        exact Sha.step_fit E0 E1
end Go.Proofs.YtpidpbjbgjkaaaaDoor
