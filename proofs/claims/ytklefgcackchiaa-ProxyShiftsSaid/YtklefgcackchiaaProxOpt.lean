/- The walks of the shifter's there, back. -/
import Derived.Test.YtklefgcackchiaaProxAdd
namespace Go.Proofs.Ytklefgcackchiaa
open Go.RowKit
set_option linter.unusedVariables false
set_option linter.unusedSimpArgs false
theorem own_blk {w : World} {base : Nat} {e : TypeId} {s n c : Nat} {A : Option Addr} {xs : List Value} (h : w.ownsRow base e s (.slice A n c) n xs) (hn : 0 < n) : ∃ g, A = some ⟨g, 0, none⟩ ∧ base ≤ g ∧ g < w.heap.size ∧ n ≤ c ∧ c ≤ maxLen := by
  rcases h.2 with ⟨_, h0⟩ | ⟨g, cap, cur, hv, hb, hg, h1, h2, _⟩
  · omega
  · injection hv with h3 h4 h5
    exact ⟨g, h3, hb, (Array.getElem?_eq_some_iff.1 hg).1, by omega, by omega⟩
theorem BlkV.grown {w w' : World} {g g' : Nat} {T : TypeId} {l : List Value} (h : BlkV w g T l) (hg : w.grownBy w' (some g')) (hne : g ≠ g') : BlkV w' g T l := (hg.block g h.lt (fun e => hne (by injection e))).trans h
theorem grown_below {w w1 w2 : World} {g : Option Nat} (h : Below w.heap.size w w1) (k : w1.grownBy w2 g) : w.grownBy w2 g :=
  ⟨k.os.trans h.os, k.tape.trans h.tape, k.output.trans h.output, Nat.le_trans h.size k.size, fun i hi hne => (k.block i (Nat.lt_of_lt_of_le hi h.size) hne).trans (h.block i hi)⟩
theorem below_grown {w w1 : World} (h : Below w.heap.size w w1) (g : Option Nat) : w.grownBy w1 g := ⟨h.os, h.tape, h.output, h.size, fun i hi _ => h.block i hi⟩
theorem grown_refl (w : World) (g : Option Nat) : w.grownBy w g := ⟨rfl, rfl, rfl, Nat.le_refl _, fun _ _ _ => rfl⟩
def ThereR (base : Nat) (A : Option Addr) (n c : Nat) (l : List Int) (w : World) (e : Ending) (w' : World) : Prop :=
  e = .returned (.tuple #[]) ∧ w'.ownsRow base 5 1 (.slice A n c) n (bs l) ∧ w.grownBy w' (Value.slice A n c).ownBlock
set_option maxHeartbeats 4000000 in
theorem pthere_sack (k sq st : Int) (A : Option Addr) (n c : Nat) (l : List Int) (base : Nat) (w : World) (hown : w.ownsRow base 5 1 (.slice A n c) n (bs l)) (hB : isB l) (hs0 : 0 ≤ sq) (hs1 : sq ≤ 4294967295) (hk : k = 5) (hn8 : n % 8 = 0) (hn : n ≤ 32) :
    Calls Try.prog 17 #[.agg #[.int .u32 sq, .int .u32 st], .agg #[.int .i64 k, .slice A n c]] w (ThereR base A n c (Prox.sh sq l) w) := by
  have hl : l.length = n := by have := hown.1; rw [bs_len] at this; omega
  obtain ⟨K, hK⟩ : ∃ K, n = 4 * K := ⟨n / 4, by omega⟩
  obtain ⟨W, hW⟩ : ∃ W, W = (w.alloc (.cells #[.int .u32 sq, .int .u32 st] 48)).alloc (.cells #[.int .i64 k, .slice A n c] 41) := ⟨_, rfl⟩
  have hbW : Below w.heap.size w W := (by rw [hW]; exact ((Below.refl _ _).alloc (Nat.le_refl _) _).alloc (by simp) _)
  have B0 : BlkV W w.heap.size 48 [.int .u32 sq, .int .u32 st] := (by rw [hW]; exact (BlkV.new w _ _).alloc _)
  have B1 : BlkV W (w.heap.size + 1) 41 [.int .i64 k, .slice A n c] := (by rw [hW]; exact BlkV.new_at (w.alloc (.cells #[.int .u32 sq, .int .u32 st] 48)) _ _ (by simp))
  have hq5 : (k == 5) = true := by rw [hk]; rfl
  have hr : Int.tmod (n : Int) 8 = 0 := by rw [Int.tmod_eq_emod_of_nonneg (by omega)]; omega
  have hn32 : (n : Int) ≤ 32 := by omega
  have OW := own_below hown hbW
  have HL := Lib.hid hl
  have HK := Lib.hid hK
  have hgap : Hid (∀ g, (Value.slice A n c).ownBlock = some g → g < w.heap.size) := Lib.hid fun g hg => (hown.lt g hg).2
  have c0 := (B1).cell (i := 0) rfl
  have c1 := (B1).cell (i := 1) rfl
  clear hk hl hK hn8
  go_enter Try.func17, Try.ntmps17
  go_upto_region 1 with (fail)
  rw [← hW]
  clear hW
  go_wp2_with fail
  go_loopg [5] K (fun gg s5 wx => ∃ (kk a : Nat), kk + gg = K ∧ a = 4 * kk ∧ s5 = .int .i64 a ∧ BlkV wx w.heap.size 48 [.int .u32 sq, .int .u32 st] ∧ BlkV wx (w.heap.size + 1) 41 [.int .i64 k, .slice A n c] ∧ Hid (wx.ownsRow base 5 1 (.slice A n c) n (bs (Prox.sh sq (l.take (4 * kk)) ++ l.drop (4 * kk)))) ∧ W.grownBy wx (Value.slice A n c).ownBlock)
  case atStart => exact ⟨0, 0, by omega, rfl, rfl, B0, B1, Lib.hid (by simpa [Prox.sh] using OW), grown_refl _ _⟩
  case round =>
    obtain ⟨kk, a, hkk, ha, rfl, B0x, B1x, OX, hgx⟩ := hrel
    cases gk with
    | zero =>
      have hk2 : kk = K := by omega
      have haz : ¬ (a : Int) < (n : Int) := by have := HK.out; omega
      have OF : Hid (wr.ownsRow base 5 1 (.slice A n c) n (bs (Prox.sh sq l))) := Lib.hid (by
        have h := OX.out
        have e : 4 * kk = l.length := by have := HK.out; have := HL.out; omega
        rw [e, List.take_length, List.drop_length, List.append_nil] at h
        exact h)
      clear ha hk2 OX
      go_wp2_with fail
      go_end0
      exact ⟨rfl, OF.out, grown_below hbW hgx⟩
    | succ g2 =>
      have haz : (a : Int) < (n : Int) := by have := HK.out; omega
      have han : (a : Int) ≤ (n : Int) := by omega
      have ha4 : a + 4 ≤ n := by have := HK.out; omega
      obtain ⟨g, hA, hg0, hg1, hg2, hg3⟩ := own_blk OX.out (by omega)
      subst hA
      have hgw : g < w.heap.size := hgap.out g rfl
      have hc63 : c ≤ 9223372036854775807 := by unfold maxLen at hg3; omega
      have hanc : (a : Int) ≤ (c : Int) := by omega
      have hgx : W.grownBy wr (some g) := hgx
      have HADD := Lib.hid (fun (w' : World) (h : w'.ownsRow base 5 1 (.slice (some ⟨g, 0, none⟩) n c) n (bs (Prox.sh sq (l.take (4 * kk)) ++ l.drop (4 * kk)))) => padd_spec g a n c _ sq base w' h (Prox.isB_app (Prox.sh_isB _ _ (Prox.isB_take hB _)) (Prox.isB_drop hB _)) ha4 (by omega) hg2 hs0 hs1)
      have KF : Hid (∀ w' : World, BlkV w' w.heap.size 48 [.int .u32 sq, .int .u32 st] → BlkV w' (w.heap.size + 1) 41 [.int .i64 k, .slice (some ⟨g, 0, none⟩) n c] → (w'.cell? ⟨w.heap.size + 1, 1, none⟩ = some (.slice (some ⟨g, 0, none⟩) n c) ∧ w'.cell? ⟨w.heap.size, 0, none⟩ = some (.int .u32 sq))) := Lib.hid fun w' h0 h1 => ⟨h1.cell rfl, h0.cell rfl⟩
      have HEQ : Hid ((Prox.sh sq (l.take (4 * kk)) ++ l.drop (4 * kk)).take a ++ Prox.sh1 sq ((Prox.sh sq (l.take (4 * kk)) ++ l.drop (4 * kk)).drop a) = Prox.sh sq (l.take (4 * (kk + 1))) ++ l.drop (4 * (kk + 1))) := Lib.hid (by
        have hll := HL.out
        have e : (Prox.sh sq (l.take (4 * kk))).length = a := by rw [Prox.sh_len, List.length_take]; omega
        rw [List.take_left' e, List.drop_left' e]
        exact Prox.sh_round sq l kk (by omega))
      have hca : ¬ c = a := by omega
      have HKK := Lib.hid hkk
      have HAA := Lib.hid ha
      clear ha hkk
      go_wp2_with fail
      refine wp_region_held_drew (S := fun w' => (w'.cell? ⟨w.heap.size + 1, 1, none⟩ = some (.slice (some ⟨g, 0, none⟩) n c) ∧ w'.cell? ⟨w.heap.size, 0, none⟩ = some (.int .u32 sq))) (by kernel_rfl) (KF.out _ B0x B1x) (fun hHeld => ?_)
      refine wpAnyH_takeD (i := 0) (some 27) (v := ?_) rfl rfl (by kernel_rfl) (by kernel_rfl) (by kernel_rfl) (fun _ _ _ h => h) (Or.inl ⟨by rfl, ?_⟩) (by assumption) ?_
      rotate_left
      · (intro w hSw; (try dsimp only at hSw); go_simp; try with_reducible rfl)
      try simp only [Act.put, List.setIfInBounds_toArray, List.set_cons_zero, List.set_cons_succ]
      refine wpAnyH_takeD (i := 1) (some 28) (v := ?_) rfl rfl (by kernel_rfl) (by kernel_rfl) (by kernel_rfl) (fun _ _ _ h => h) (Or.inl ⟨by rfl, ?_⟩) (by assumption) ?_
      rotate_left
      · (intro w hSw; (try dsimp only at hSw); go_simp; try with_reducible rfl)
      try simp only [Act.put, List.setIfInBounds_toArray, List.set_cons_zero, List.set_cons_succ]
      refine wpAnyH_takeD (i := 2) (some 29) (v := ?_) rfl rfl (by kernel_rfl) (by kernel_rfl) (by kernel_rfl) (fun _ _ _ h => h) (Or.inl ⟨by rfl, ?_⟩) (by assumption) ?_
      rotate_left
      · (intro w hSw; (try dsimp only at hSw); go_simp; try with_reducible rfl)
      try simp only [Act.put, List.setIfInBounds_toArray, List.set_cons_zero, List.set_cons_succ]
      refine wpAnyH_takeD (i := 3) (some 30) (v := ?_) rfl rfl (by kernel_rfl) (by kernel_rfl) (by kernel_rfl) (fun _ _ _ h => h) (Or.inl ⟨by rfl, ?_⟩) (by assumption) ?_
      rotate_left
      · (intro w hSw; (try dsimp only at hSw); go_simp; try with_reducible rfl)
      try simp only [Act.put, List.setIfInBounds_toArray, List.set_cons_zero, List.set_cons_succ]
      refine wpAnyH_takeD (i := 4) (some 31) (v := ?_) rfl rfl (by kernel_rfl) (by kernel_rfl) (by kernel_rfl) (fun _ _ _ h => h) (Or.inl ⟨by rfl, ?_⟩) (by assumption) ?_
      rotate_left
      · (intro w hSw; (try dsimp only at hSw); go_simp; try with_reducible rfl)
      try simp only [Act.put, List.setIfInBounds_toArray, List.set_cons_zero, List.set_cons_succ]
      refine wpAnyH_takeD (i := 5) (some 32) (v := ?_) rfl rfl (by kernel_rfl) (by kernel_rfl) (by kernel_rfl) (fun _ _ _ h => h) (Or.inl ⟨by rfl, ?_⟩) (by assumption) ?_
      rotate_left
      · (intro w hSw; (try dsimp only at hSw); go_simp; try with_reducible rfl)
      try simp only [Act.put, List.setIfInBounds_toArray, List.set_cons_zero, List.set_cons_succ]
      refine wpAnyH_takeD (i := 6) (some 33) (v := ?_) rfl rfl (by kernel_rfl) (by kernel_rfl) (by kernel_rfl) (fun _ _ _ h => h) (Or.inl ⟨by rfl, ?_⟩) (by assumption) ?_
      rotate_left
      · (intro w hSw; (try dsimp only at hSw); go_simp; try with_reducible rfl)
      try simp only [Act.put, List.setIfInBounds_toArray, List.set_cons_zero, List.set_cons_succ]
      refine wpAnyH_ready (rs := [7]) (by kernel_rfl) (by simp) ?_
      refine AllReadyH.cons (o := _) rfl (fun K hK => ?_) AllReadyH.nil
      go_simp
      refine (HADD.out wr.drew OX.out).mono ?_
      rintro e w5 ⟨rfl, o5, q5⟩
      have B0y := (show BlkV wr.drew _ _ _ from B0x).grown q5 (by omega)
      have B1y := (show BlkV wr.drew _ _ _ from B1x).grown q5 (by omega)
      rw [HEQ.out] at o5
      have OY := Lib.hid o5
      have hgy := grown_trans (grown_drewN hgx 1) q5
      clear o5 q5 B0x B1x hgx
      go_wp2_with fail
      refine hK.out _ _ (KF.out _ B0y B1y) (fun hHeld => ?_)
      clear hK K
      try simp only [Act.put, List.setIfInBounds_toArray, List.set_cons_zero, List.set_cons_succ]
      refine wpAnyH_done (by kernel_rfl) ?_ _
      clear hHeld KF HADD HEQ OX
      go_wp2_with fail
      go_roundg g2
      case measure => omega
      case rel => exact ⟨kk + 1, a + 4, by have := HKK.out; omega, by have := HAA.out; omega, by go_num, B0y, B1y, OY, hgy⟩
set_option maxHeartbeats 4000000 in
theorem pthere_stamp (k sq st : Int) (A : Option Addr) (n c : Nat) (l : List Int) (base : Nat) (w : World) (hown : w.ownsRow base 5 1 (.slice A n c) n (bs l)) (hB : isB l) (hs0 : 0 ≤ st) (hs1 : st ≤ 4294967295) (hk : k = 8) (hn : n = 8) :
    Calls Try.prog 17 #[.agg #[.int .u32 sq, .int .u32 st], .agg #[.int .i64 k, .slice A n c]] w (ThereR base A n c (l.take 4 ++ Prox.sh st (l.drop 4)) w) := by
  have hl : l.length = n := by have := hown.1; rw [bs_len] at this; omega
  obtain ⟨W, hW⟩ : ∃ W, W = (w.alloc (.cells #[.int .u32 sq, .int .u32 st] 48)).alloc (.cells #[.int .i64 k, .slice A n c] 41) := ⟨_, rfl⟩
  have hbW : Below w.heap.size w W := (by rw [hW]; exact ((Below.refl _ _).alloc (Nat.le_refl _) _).alloc (by simp) _)
  have B0 : BlkV W w.heap.size 48 [.int .u32 sq, .int .u32 st] := (by rw [hW]; exact (BlkV.new w _ _).alloc _)
  have B1 : BlkV W (w.heap.size + 1) 41 [.int .i64 k, .slice A n c] := (by rw [hW]; exact BlkV.new_at (w.alloc (.cells #[.int .u32 sq, .int .u32 st] 48)) _ _ (by simp))
  obtain ⟨g, hA, hg0, hg1, hg2, hg3⟩ := own_blk hown (by omega)
  subst hA
  subst hn
  have hq5 : (k == 5) = false := by rw [hk]; rfl
  have hq8 : (k == 8) = true := by rw [hk]; rfl
  have OW := own_below hown hbW
  have hgw : g < w.heap.size := hg1
  have hc63 : c ≤ 9223372036854775807 := by unfold maxLen at hg3; omega
  have hca : ¬ c = 4 := by omega
  have h4c : (4 : Int) ≤ (c : Int) := by omega
  have HADD := Lib.hid (padd_spec g 4 8 c l st base W.drew OW hB (by omega) (by omega) hg2 hs0 hs1)
  have HEQ : Hid (l.take 4 ++ Prox.sh1 st (l.drop 4) = l.take 4 ++ Prox.sh st (l.drop 4)) := Lib.hid (by
    rw [Prox.sh1_app st _ (by rw [List.length_drop]; omega)]
    have e : (l.drop 4).length = 4 := by rw [List.length_drop]; omega
    have e1 : (l.drop 4).take 4 = l.drop 4 := List.take_of_length_le (by omega)
    have e2 : (l.drop 4).drop 4 = [] := List.drop_eq_nil_of_le (by omega)
    rw [e1, e2, List.append_nil])
  have KF : Hid (∀ w' : World, BlkV w' w.heap.size 48 [.int .u32 sq, .int .u32 st] → BlkV w' (w.heap.size + 1) 41 [.int .i64 k, .slice (some ⟨g, 0, none⟩) 8 c] → (w'.cell? ⟨w.heap.size + 1, 1, none⟩ = some (.slice (some ⟨g, 0, none⟩) 8 c) ∧ w'.cell? ⟨w.heap.size, 1, none⟩ = some (.int .u32 st))) := Lib.hid fun w' h0 h1 => ⟨h1.cell rfl, h0.cell rfl⟩
  have c0 := (B1).cell (i := 0) rfl
  have c1 := (B1).cell (i := 1) rfl
  clear hk hl hown
  go_enter Try.func17, Try.ntmps17
  go_upto_region 1 with (fail)
  rw [← hW]
  clear hW
  go_wp2_with fail
  refine wp_region_held_drew (S := fun w' => (w'.cell? ⟨w.heap.size + 1, 1, none⟩ = some (.slice (some ⟨g, 0, none⟩) 8 c) ∧ w'.cell? ⟨w.heap.size, 1, none⟩ = some (.int .u32 st))) (by kernel_rfl) (KF.out _ B0 B1) (fun hHeld => ?_)
  refine wpAnyH_takeD (i := 0) (some 43) (v := ?_) rfl rfl (by kernel_rfl) (by kernel_rfl) (by kernel_rfl) (fun _ _ _ h => h) (Or.inl ⟨by rfl, ?_⟩) (by assumption) ?_
  rotate_left
  · (intro w hSw; (try dsimp only at hSw); go_simp; try with_reducible rfl)
  try simp only [Act.put, List.setIfInBounds_toArray, List.set_cons_zero, List.set_cons_succ]
  refine wpAnyH_takeD (i := 1) (some 44) (v := ?_) rfl rfl (by kernel_rfl) (by kernel_rfl) (by kernel_rfl) (fun _ _ _ h => h) (Or.inl ⟨by rfl, ?_⟩) (by assumption) ?_
  rotate_left
  · (intro w hSw; (try dsimp only at hSw); go_simp; try with_reducible rfl)
  try simp only [Act.put, List.setIfInBounds_toArray, List.set_cons_zero, List.set_cons_succ]
  refine wpAnyH_takeD (i := 2) (some 45) (v := ?_) rfl rfl (by kernel_rfl) (by kernel_rfl) (by kernel_rfl) (fun _ _ _ h => h) (Or.inl ⟨by rfl, ?_⟩) (by assumption) ?_
  rotate_left
  · (intro w hSw; (try dsimp only at hSw); go_simp; try with_reducible rfl)
  try simp only [Act.put, List.setIfInBounds_toArray, List.set_cons_zero, List.set_cons_succ]
  refine wpAnyH_takeD (i := 3) (some 46) (v := ?_) rfl rfl (by kernel_rfl) (by kernel_rfl) (by kernel_rfl) (fun _ _ _ h => h) (Or.inl ⟨by rfl, ?_⟩) (by assumption) ?_
  rotate_left
  · (intro w hSw; (try dsimp only at hSw); go_simp; try with_reducible rfl)
  try simp only [Act.put, List.setIfInBounds_toArray, List.set_cons_zero, List.set_cons_succ]
  refine wpAnyH_takeD (i := 4) (some 47) (v := ?_) rfl rfl (by kernel_rfl) (by kernel_rfl) (by kernel_rfl) (fun _ _ _ h => h) (Or.inl ⟨by rfl, ?_⟩) (by assumption) ?_
  rotate_left
  · (intro w hSw; (try dsimp only at hSw); go_simp; try with_reducible rfl)
  try simp only [Act.put, List.setIfInBounds_toArray, List.set_cons_zero, List.set_cons_succ]
  refine wpAnyH_takeD (i := 5) (some 48) (v := ?_) rfl rfl (by kernel_rfl) (by kernel_rfl) (by kernel_rfl) (fun _ _ _ h => h) (Or.inl ⟨by rfl, ?_⟩) (by assumption) ?_
  rotate_left
  · (intro w hSw; (try dsimp only at hSw); go_simp; try with_reducible rfl)
  try simp only [Act.put, List.setIfInBounds_toArray, List.set_cons_zero, List.set_cons_succ]
  refine wpAnyH_ready (rs := [6]) (by kernel_rfl) (by simp) ?_
  refine AllReadyH.cons (o := _) rfl (fun K hK => ?_) AllReadyH.nil
  go_simp
  refine HADD.out.mono ?_
  rintro e w5 ⟨rfl, o5, q5⟩
  have B0y := (show BlkV W.drew _ _ _ from B0).grown q5 (by omega)
  have B1y := (show BlkV W.drew _ _ _ from B1).grown q5 (by omega)
  rw [HEQ.out] at o5
  have OY := Lib.hid o5
  have hgy := grown_trans (grown_drewN (below_grown hbW (some g)) 1) q5
  clear o5 q5 B0 B1 c0 c1
  go_wp2_with fail
  refine hK.out _ _ (KF.out _ B0y B1y) (fun hHeld => ?_)
  clear hK K
  try simp only [Act.put, List.setIfInBounds_toArray, List.set_cons_zero, List.set_cons_succ]
  refine wpAnyH_done (by kernel_rfl) ?_ _
  clear hHeld KF HADD HEQ
  go_wp2_with fail
  go_end0
  exact ⟨rfl, OY.out, hgy⟩
set_option maxHeartbeats 4000000 in
theorem pthere_none (k sq st : Int) (A : Option Addr) (n c : Nat) (l : List Int) (base : Nat) (w : World) (hown : w.ownsRow base 5 1 (.slice A n c) n (bs l)) (h5 : ¬ (k = 5 ∧ n % 8 = 0 ∧ n ≤ 32)) (h8 : ¬ (k = 8 ∧ n = 8)) (hn : n ≤ 9223372036854775807) :
    Calls Try.prog 17 #[.agg #[.int .u32 sq, .int .u32 st], .agg #[.int .i64 k, .slice A n c]] w (ThereR base A n c l w) := by
  obtain ⟨W, hW⟩ : ∃ W, W = (w.alloc (.cells #[.int .u32 sq, .int .u32 st] 48)).alloc (.cells #[.int .i64 k, .slice A n c] 41) := ⟨_, rfl⟩
  have hbW : Below w.heap.size w W := (by rw [hW]; exact ((Below.refl _ _).alloc (Nat.le_refl _) _).alloc (by simp) _)
  have B0 : BlkV W w.heap.size 48 [.int .u32 sq, .int .u32 st] := (by rw [hW]; exact (BlkV.new w _ _).alloc _)
  have B1 : BlkV W (w.heap.size + 1) 41 [.int .i64 k, .slice A n c] := (by rw [hW]; exact BlkV.new_at (w.alloc (.cells #[.int .u32 sq, .int .u32 st] 48)) _ _ (by simp))
  have OW := Lib.hid (own_below hown hbW)
  have c0 := (B1).cell (i := 0) rfl
  have c1 := (B1).cell (i := 1) rfl
  obtain ⟨r, hr⟩ : ∃ r : Int, Int.tmod (n : Int) 8 = r := ⟨_, rfl⟩
  have HR : Hid (r = ((n % 8 : Nat) : Int)) := Lib.hid (by rw [← hr, Int.tmod_eq_emod_of_nonneg (by omega)]; omega)
  clear hown B0 B1
  rcases (show (k ≠ 5 ∧ k ≠ 8) ∨ (k ≠ 5 ∧ k = 8 ∧ n ≠ 8) ∨ (k = 5 ∧ n % 8 ≠ 0) ∨ (k = 5 ∧ n % 8 = 0 ∧ ¬ n ≤ 32) by omega) with ⟨g1, g2⟩ | ⟨g1, g2, g3⟩ | ⟨g1, g2⟩ | ⟨g1, g2, g3⟩
  case' inl =>
    have q1 : (k == 5) = false := by simp [g1]
    have q2 : (k == 8) = false := by simp [g2]
  case' inr.inl =>
    have q1 : (k == 5) = false := by simp [g1]
    have q2 : (k == 8) = true := by rw [g2]; rfl
    have q3 : ((n : Int) == 8) = false := by simp; omega
  case' inr.inr.inl =>
    have q1 : (k == 5) = true := by rw [g1]; rfl
    have q2 : (k == 8) = false := by rw [g1]; rfl
    have q3 : (r == 0) = false := by rw [HR.out]; simp; omega
  case' inr.inr.inr =>
    have q1 : (k == 5) = true := by rw [g1]; rfl
    have q2 : (k == 8) = false := by rw [g1]; rfl
    have q3 : (r == 0) = true := by rw [HR.out, g2]; rfl
    have q4 : ¬ (n : Int) ≤ 32 := by omega
  all_goals
    clear g1 g2
    go_enter Try.func17, Try.ntmps17
    go_upto_region 1 with (fail)
    rw [← hW]
    clear hW
    go_wp2_with fail
    go_end0
    exact ⟨rfl, OW.out, below_grown hbW _⟩
theorem pthere_spec (k sq st : Int) (A : Option Addr) (n c : Nat) (l : List Int) (base : Nat) (w : World) (hown : w.ownsRow base 5 1 (.slice A n c) n (bs l)) (hB : isB l) (hs0 : 0 ≤ sq) (hs1 : sq ≤ 4294967295) (ht0 : 0 ≤ st) (ht1 : st ≤ 4294967295) (hn : n ≤ 9223372036854775807) :
    Calls Try.prog 17 #[.agg #[.int .u32 sq, .int .u32 st], .agg #[.int .i64 k, .slice A n c]] w (ThereR base A n c (Prox.there sq st (k, l)).2 w) := by
  have hl : l.length = n := by have := hown.1; rw [bs_len] at this; omega
  unfold Prox.there
  simp only
  rw [hl]
  by_cases h5 : k = 5 ∧ n % 8 = 0 ∧ n ≤ 32
  · rw [if_pos h5]
    exact pthere_sack k sq st A n c l base w hown hB hs0 hs1 h5.1 h5.2.1 h5.2.2
  · rw [if_neg h5]
    by_cases h8 : k = 8 ∧ n = 8
    · rw [if_pos h8]
      exact pthere_stamp k sq st A n c l base w hown hB ht0 ht1 h8.1 h8.2
    · rw [if_neg h8]
      exact pthere_none k sq st A n c l base w hown h5 h8 hn
end Go.Proofs.Ytklefgcackchiaa
