/- PeerBegins: the walk. -/
import Derived.Test.YtihhcalgjkkalaaPbTwo
import Derived.Test.YtihhcalgjkkalaaPeerAwake
namespace Go.Proofs.Ytihhcalgjkkalaa
open Go.RowKit
set_option linter.unusedVariables false
set_option linter.unusedSimpArgs false
set_option maxRecDepth 20000
/-- the things that happen, in memory -/
def Acts (w : World) (A : Option Addr) (n : Nat) : Prop := ∀ j, j < n → ∃ (b off kd a : Nat) (sd : Bool), A = some ⟨b, off, none⟩ ∧ b < w.heap.size ∧ w.rangeAt b (off + j * 3) [.int .u8 kd, .bool sd, .int .u8 a] ∧ kd ≤ 255 ∧ a ≤ 255
theorem Acts.below {w w' : World} {A : Option Addr} {n : Nat} (h : Acts w A n) (hb : Below w.heap.size w w') : Acts w' A n := fun j hj => by
  obtain ⟨b, off, kd, a, sd, e, hl, hr, h1, h2⟩ := h j hj
  exact ⟨b, off, kd, a, sd, e, Nat.lt_of_lt_of_le hl hb.size, fun i v hv => (hb.cell (p := ⟨b, off + j * 3 + i, none⟩) hl).trans (hr i v hv), h1, h2⟩
def Peer.zero : Peer.P := ⟨0, 0, 0, 0, 0, 0, 0, 0, 0, Peer.nil, Peer.nil⟩
def Two.zero : Two := ⟨Peer.zero, Peer.zero, none, 0, 0, [], none, 0, 0, []⟩
theorem two_zero (w : World) : TwoM w w.heap.size Two.zero (w.alloc (.cells #[.int .i64 0, .int .i64 0, .int .i64 0, .int .u32 0, .int .u32 0, .int .u32 0, .int .u32 0, .int .i64 0, .int .i64 0, .slice none 0 0, .slice none 0 0, .int .i64 0, .int .i64 0, .int .i64 0, .int .u32 0, .int .u32 0, .int .u32 0, .int .u32 0, .int .i64 0, .int .i64 0, .slice none 0 0, .slice none 0 0, .slice none 0 0, .slice none 0 0] 48)) :=
  ⟨bel_a (Below.refl _ _) _, Nat.le_refl _, BlkV.new w _ _, ⟨own_none _ _, own_none _ _⟩, ⟨own_none _ _, own_none _ _⟩, ⟨rfl, .inl ⟨rfl, rfl⟩⟩, ⟨rfl, .inl ⟨rfl, rfl⟩⟩, (fun g h => by cases h), (fun t ht => by cases ht), (fun t ht => by cases ht)⟩
theorem peerbegins_long (A : Option Addr) (n c : Nat) (B : Option Addr) (m d : Nat) (x y win ot mss : Int) (L : Option Addr) (nl cl : Nat) (w : World) (h : 300 < n ∨ 300 < m) :
    Calls Try.prog 5 #[.slice A n c, .slice B m d, .int .u32 x, .int .u32 y, .int .u8 win, .int .u8 ot, .int .u8 mss, .slice L nl cl] w fun e w' => e = .returned (.bool true) ∧ Below w.heap.size w w' := by
  have HW := Lib.hid (peer_awake w)
  rcases (show 300 < n ∨ (¬ 300 < n ∧ 300 < m) by omega) with h1 | ⟨h1, h2⟩
  · have h1' : (300 : Int) < (n : Int) := by omega
    go_enter Try.func5, Try.ntmps5
    go_wp2_with fail
    refine HW.out.mono ?_
    rintro e w1 ⟨rfl, hb1⟩
    go_wp2_with fail
    go_ret
    exact ⟨rfl, hb1⟩
  · have h1' : ¬ (300 : Int) < (n : Int) := by omega
    have h2' : (300 : Int) < (m : Int) := by omega
    go_enter Try.func5, Try.ntmps5
    go_wp2_with fail
    refine HW.out.mono ?_
    rintro e w1 ⟨rfl, hb1⟩
    go_wp2_with fail
    go_ret
    exact ⟨rfl, hb1⟩
set_option maxHeartbeats 16000000 in
theorem peerbegins_walk (A : Option Addr) (n c : Nat) (la : List Int) (B : Option Addr) (m d : Nat) (lb : List Int) (x y : Int) (win ot mss : Nat) (L : Option Addr) (nl cl : Nat) (w : World) (hA : Rd w 1 A n (bs la)) (iA : isB la) (hB : Rd w 1 B m (bs lb)) (iB : isB lb) (hn : n ≤ 300) (hm : m ≤ 300)
    (hx0 : 0 ≤ x) (hx1 : x ≤ 4294967295) (hy0 : 0 ≤ y) (hy1 : y ≤ 4294967295) (hwin : win ≤ 255) (hot : ot ≤ 255) (hms : mss ≤ 255) (hL : Acts w L nl) (hnl : nl ≤ 9223372036854775807) :
    Calls Try.prog 5 #[.slice A n c, .slice B m d, .int .u32 x, .int .u32 y, .int .u8 win, .int .u8 ot, .int .u8 mss, .slice L nl cl] w fun e w' => e = .returned (.bool true) ∧ Below w.heap.size w w' := by
  obtain ⟨X, hX⟩ : ∃ X : Pb.Cc, X = ⟨x, y, win + 1, ot + 1, mss + 1, la, lb⟩ := ⟨_, rfl⟩
  have hla : la.length = n := by have := hA.1; simpa [bs] using this
  have hlb : lb.length = m := by have := hB.1; simpa [bs] using this
  have hXok : X.ok := by rw [hX]; exact ⟨hx0, hx1, hy0, hy1, by show 1 ≤ win + 1; omega, by show win + 1 ≤ 256; omega, by show 1 ≤ ot + 1; omega, by show ot + 1 ≤ 256; omega, by show 1 ≤ mss + 1; omega, by show mss + 1 ≤ 256; omega, by show la.length ≤ 300; omega, by show lb.length ≤ 300; omega⟩
  have HW := Lib.hid (peer_awake w)
  have hw1 : IntKind.i64.wrap (win : Int) = (win : Int) := IntWalk.i64_in _ (by omega)
  have hw2 : IntKind.i64.wrap ((win : Int) + 1) = (X.w0 : Int) := by rw [hX]; exact IntWalk.i64_in _ (by omega)
  have hw3 : IntKind.i64.wrap (ot : Int) = (ot : Int) := IntWalk.i64_in _ (by omega)
  have hw4 : IntKind.i64.wrap ((ot : Int) + 1) = (X.w1 : Int) := by rw [hX]; exact IntWalk.i64_in _ (by omega)
  have hw5 : IntKind.i64.wrap (mss : Int) = (mss : Int) := IntWalk.i64_in _ (by omega)
  have hw6 : IntKind.i64.wrap ((mss : Int) + 1) = (X.m : Int) := by rw [hX]; exact IntWalk.i64_in _ (by omega)
  have h1' : ¬ (300 : Int) < (n : Int) := by omega
  have h2' : ¬ (300 : Int) < (m : Int) := by omega
  have HAA := Lib.hid (show ∀ w', Below w.heap.size w w' → Calls Try.prog 8 #[.int .i64 5000, .int .i64 80, .int .u32 x, .int .i64 X.w0, .slice A n c] w' fun e w'' => Below w'.heap.size w' w'' ∧ ∃ p : Peer.P, e = .returned (.tuple #[.agg #[.int .i64 p.st, .int .i64 p.port, .int .i64 p.to, .int .u32 p.fi, .int .u32 p.un, .int .u32 p.ne, .int .u32 p.wa, .int .i64 p.wi, .int .i64 p.ot, .slice p.d.A p.d.n p.d.c, .slice p.g.A p.g.n p.g.c], .int .i64 0]) ∧ OwnP w'' w'.heap.size p ∧ p.con = Pb.pe0 X ⟨2, 0, 1, 0⟩ from fun w' hb => by
    have h := ask_ok X hXok A n c hn w' (by rw [hX]; exact hA.below hb) (by rw [hX]; exact iA)
    rw [show X.f0 = x by rw [hX]] at h
    exact h)
  have HBB := Lib.hid (show ∀ w', Below w.heap.size w w' → Calls Try.prog 7 #[.int .i64 80, .int .u32 y, .int .i64 X.w1, .slice B m d] w' fun e w'' => Below w'.heap.size w' w'' ∧ ∃ p : Peer.P, e = .returned (.tuple #[.agg #[.int .i64 p.st, .int .i64 p.port, .int .i64 p.to, .int .u32 p.fi, .int .u32 p.un, .int .u32 p.ne, .int .u32 p.wa, .int .i64 p.wi, .int .i64 p.ot, .slice p.d.A p.d.n p.d.c, .slice p.g.A p.g.n p.g.c], .int .i64 0]) ∧ OwnP w'' w'.heap.size p ∧ p.con = Pb.pe1 X ⟨1, 0, 0, 0⟩ from fun w' hb => by
    have h := wait_ok X hXok B m d hm w' (by rw [hX]; exact hB.below hb) (by rw [hX]; exact iB)
    rw [show X.f1 = y by rw [hX]] at h
    exact h)
  have HXOK := Lib.hid hXok
  have HLA := Lib.hid (show X.cf.L0 = n by rw [hX]; exact hla)
  have HLB := Lib.hid (show X.cf.L1 = m by rw [hX]; exact hlb)
  have HACT := Lib.hid hL
  clear hX hla hlb hXok hA iA hB iB hL hx0 hx1 hy0 hy1 hwin hot hms
  go_enter Try.func5, Try.ntmps5
  go_wp2_with fail
  refine HW.out.mono ?_
  rintro e w1 ⟨rfl, hb1⟩
  have HB1 := Lib.hid hb1
  clear hb1 HW
  go_upto_region 6 with (fail)
  obtain ⟨g, hg⟩ : ∃ g, g = w1.heap.size := ⟨_, rfl⟩
  obtain ⟨w2, hw2'⟩ : ∃ v, v = w1.alloc (.cells #[.int .i64 0, .int .i64 0, .int .i64 0, .int .u32 0, .int .u32 0, .int .u32 0, .int .u32 0, .int .i64 0, .int .i64 0, .slice none 0 0, .slice none 0 0, .int .i64 0, .int .i64 0, .int .i64 0, .int .u32 0, .int .u32 0, .int .u32 0, .int .u32 0, .int .i64 0, .int .i64 0, .slice none 0 0, .slice none 0 0, .slice none 0 0, .slice none 0 0] 48) := ⟨_, rfl⟩
  have HT2 : Hid (TwoM w1 g Two.zero w2) := Lib.hid (by rw [hw2', hg]; exact two_zero w1)
  rw [← hw2', ← hg]
  clear hw2' hg
  have HBX := Lib.hid (show ∀ z v, TwoM w1 g z v → Below w.heap.size w v from fun z v h => HB1.out.trans (h.bel.mono HB1.out.size))
  refine wp_region_held_drew (S := fun _ => True) (by kernel_rfl) trivial (fun hHeld => ?_)
  refine wpAnyH_takeD (i := 0) (some 37) (v := ?_) rfl rfl (by kernel_rfl) (by kernel_rfl) (by kernel_rfl) (fun _ _ _ h => h) (Or.inl ⟨by rfl, ?_⟩) (by assumption) ?_
  rotate_left
  · (intro w hSw; (try dsimp only at hSw); go_simp; try with_reducible rfl)
  try simp only [Act.put, List.setIfInBounds_toArray, List.set_cons_zero, List.set_cons_succ]
  refine wpAnyH_takeD (i := 1) (some 38) (v := ?_) rfl rfl (by kernel_rfl) (by kernel_rfl) (by kernel_rfl) (fun _ _ _ h => h) (Or.inl ⟨by rfl, ?_⟩) (by assumption) ?_
  rotate_left
  · (intro w hSw; (try dsimp only at hSw); go_simp; try with_reducible rfl)
  try simp only [Act.put, List.setIfInBounds_toArray, List.set_cons_zero, List.set_cons_succ]
  refine wpAnyH_takeD (i := 2) (some 39) (v := ?_) rfl rfl (by kernel_rfl) (by kernel_rfl) (by kernel_rfl) (fun _ _ _ h => h) (Or.inl ⟨by rfl, ?_⟩) (by assumption) ?_
  rotate_left
  · (intro w hSw; (try dsimp only at hSw); go_simp; try with_reducible rfl)
  try simp only [Act.put, List.setIfInBounds_toArray, List.set_cons_zero, List.set_cons_succ]
  refine wpAnyH_takeD (i := 3) (some 40) (v := ?_) rfl rfl (by kernel_rfl) (by kernel_rfl) (by kernel_rfl) (fun _ _ _ h => h) (Or.inl ⟨by rfl, ?_⟩) (by assumption) ?_
  rotate_left
  · (intro w hSw; (try dsimp only at hSw); go_simp; try with_reducible rfl)
  try simp only [Act.put, List.setIfInBounds_toArray, List.set_cons_zero, List.set_cons_succ]
  refine wpAnyH_takeD (i := 4) (some 41) (v := ?_) rfl rfl (by kernel_rfl) (by kernel_rfl) (by kernel_rfl) (fun _ _ _ h => h) (Or.inl ⟨by rfl, ?_⟩) (by assumption) ?_
  rotate_left
  · (intro w hSw; (try dsimp only at hSw); go_simp; try with_reducible rfl)
  try simp only [Act.put, List.setIfInBounds_toArray, List.set_cons_zero, List.set_cons_succ]
  refine wpAnyH_takeD (i := 5) (some 42) (v := ?_) rfl rfl (by kernel_rfl) (by kernel_rfl) (by kernel_rfl) (fun _ _ _ h => h) (Or.inl ⟨by rfl, ?_⟩) (by assumption) ?_
  rotate_left
  · (intro w hSw; (try dsimp only at hSw); go_simp; try with_reducible rfl)
  try simp only [Act.put, List.setIfInBounds_toArray, List.set_cons_zero, List.set_cons_succ]
  refine wpAnyH_takeD (i := 10) (some 46) (v := ?_) rfl rfl (by kernel_rfl) (by kernel_rfl) (by kernel_rfl) (fun _ _ _ h => h) (Or.inl ⟨by rfl, ?_⟩) (by assumption) ?_
  rotate_left
  · (intro w hSw; (try dsimp only at hSw); go_simp; try with_reducible rfl)
  try simp only [Act.put, List.setIfInBounds_toArray, List.set_cons_zero, List.set_cons_succ]
  refine wpAnyH_takeD (i := 11) (some 47) (v := ?_) rfl rfl (by kernel_rfl) (by kernel_rfl) (by kernel_rfl) (fun _ _ _ h => h) (Or.inl ⟨by rfl, ?_⟩) (by assumption) ?_
  rotate_left
  · (intro w hSw; (try dsimp only at hSw); go_simp; try with_reducible rfl)
  try simp only [Act.put, List.setIfInBounds_toArray, List.set_cons_zero, List.set_cons_succ]
  refine wpAnyH_ready (rs := [6]) (by kernel_rfl) (by simp) ?_
  refine AllReadyH.cons (o := _) rfl (fun K hK => ?_) AllReadyH.nil
  go_simp
  refine (HAA.out _ (bel_d (HBX.out _ _ HT2.out))).mono ?_
  rintro e w3 ⟨hbq, p0, rfl, hpo, hpc⟩
  go_wp2_with fail
  refine hK.out _ _ trivial (fun hHeld => ?_)
  clear hK K
  try simp only [Act.put, List.setIfInBounds_toArray, List.set_cons_zero, List.set_cons_succ]
  have HTp0 := Lib.hid (HT2.out.drew.below hbq)
  have HOp0 := Lib.hid (hpo.weak HT2.out.drew.bel.size)
  have HCp0 := Lib.hid hpc
  clear hpo hpc hbq
  refine wpAnyH_takeD (i := 7) (some 36) (v := ?_) rfl rfl (by kernel_rfl) (by kernel_rfl) (by kernel_rfl) (fun _ _ _ h => h) (Or.inl ⟨by rfl, ?_⟩) (by assumption) ?_
  rotate_left
  · (intro w hSw; (try dsimp only at hSw); go_simp; try with_reducible rfl)
  try simp only [Act.put, List.setIfInBounds_toArray, List.set_cons_zero, List.set_cons_succ]
  refine wpAnyH_takeD (i := 8) (some 44) (v := ?_) rfl rfl (by kernel_rfl) (by kernel_rfl) (by kernel_rfl) (fun _ _ _ h => h) (Or.inl ⟨by rfl, ?_⟩) (by assumption) ?_
  rotate_left
  · (intro w hSw; (try dsimp only at hSw); go_simp; try with_reducible rfl)
  try simp only [Act.put, List.setIfInBounds_toArray, List.set_cons_zero, List.set_cons_succ]
  refine wpAnyH_takeD (i := 9) (some 45) (v := ?_) rfl rfl (by kernel_rfl) (by kernel_rfl) (by kernel_rfl) (fun _ _ _ h => h) (Or.inl ⟨by rfl, ?_⟩) (by assumption) ?_
  rotate_left
  · (intro w hSw; (try dsimp only at hSw); go_simp; try with_reducible rfl)
  try simp only [Act.put, List.setIfInBounds_toArray, List.set_cons_zero, List.set_cons_succ]
  refine wpAnyH_takeD (i := 12) (some 48) (v := ?_) rfl rfl (by kernel_rfl) (by kernel_rfl) (by kernel_rfl) (fun _ _ _ h => h) (Or.inl ⟨by rfl, ?_⟩) (by assumption) ?_
  rotate_left
  · (intro w hSw; (try dsimp only at hSw); go_simp; try with_reducible rfl)
  try simp only [Act.put, List.setIfInBounds_toArray, List.set_cons_zero, List.set_cons_succ]
  refine wpAnyH_ready (rs := [13]) (by kernel_rfl) (by simp) ?_
  refine AllReadyH.cons (o := _) rfl (fun K hK => ?_) AllReadyH.nil
  rw [if_pos (by rfl)]
  refine wp_stM (pre := ([] : List Value)) (cs := [.int .i64 0, .int .i64 0, .int .i64 0, .int .u32 0, .int .u32 0, .int .u32 0, .int .u32 0, .int .i64 0, .int .i64 0, .slice none 0 0, .slice none 0 0]) (ds := [.int .i64 p0.st, .int .i64 p0.port, .int .i64 p0.to, .int .u32 p0.fi, .int .u32 p0.un, .int .u32 p0.ne, .int .u32 p0.wa, .int .i64 p0.wi, .int .i64 p0.ot, .slice p0.d.A p0.d.n p0.d.c, .slice p0.g.A p0.g.n p0.g.c]) (post := _) 26 _ _ rfl rfl (by rfl) (by rfl) (BlkV.fit HTp0.out.blk rfl) (by rfl) (peer_size (by rfl)) (by rfl) ?_
  intro w4 B4 h4
  refine hK.out _ _ trivial (fun hHeld => ?_)
  clear hK K
  try simp only [Act.put, List.setIfInBounds_toArray, List.set_cons_zero, List.set_cons_succ]
  refine wpAnyH_done (by kernel_rfl) ?_ _
  have HT4 := Lib.hid (HTp0.out.peer0 HOp0.out h4 (BlkV.fit B4 rfl))
  clear HTp0 HOp0 HT2 B4 h4 HAA hHeld
  go_upto_region 7 with (fail)
  refine wp_region_held_drew (S := fun _ => True) (by kernel_rfl) trivial (fun hHeld => ?_)
  refine wpAnyH_takeD (i := 0) (some 50) (v := ?_) rfl rfl (by kernel_rfl) (by kernel_rfl) (by kernel_rfl) (fun _ _ _ h => h) (Or.inl ⟨by rfl, ?_⟩) (by assumption) ?_
  rotate_left
  · (intro w hSw; (try dsimp only at hSw); go_simp; try with_reducible rfl)
  try simp only [Act.put, List.setIfInBounds_toArray, List.set_cons_zero, List.set_cons_succ]
  refine wpAnyH_takeD (i := 1) (some 51) (v := ?_) rfl rfl (by kernel_rfl) (by kernel_rfl) (by kernel_rfl) (fun _ _ _ h => h) (Or.inl ⟨by rfl, ?_⟩) (by assumption) ?_
  rotate_left
  · (intro w hSw; (try dsimp only at hSw); go_simp; try with_reducible rfl)
  try simp only [Act.put, List.setIfInBounds_toArray, List.set_cons_zero, List.set_cons_succ]
  refine wpAnyH_takeD (i := 2) (some 52) (v := ?_) rfl rfl (by kernel_rfl) (by kernel_rfl) (by kernel_rfl) (fun _ _ _ h => h) (Or.inl ⟨by rfl, ?_⟩) (by assumption) ?_
  rotate_left
  · (intro w hSw; (try dsimp only at hSw); go_simp; try with_reducible rfl)
  try simp only [Act.put, List.setIfInBounds_toArray, List.set_cons_zero, List.set_cons_succ]
  refine wpAnyH_takeD (i := 3) (some 53) (v := ?_) rfl rfl (by kernel_rfl) (by kernel_rfl) (by kernel_rfl) (fun _ _ _ h => h) (Or.inl ⟨by rfl, ?_⟩) (by assumption) ?_
  rotate_left
  · (intro w hSw; (try dsimp only at hSw); go_simp; try with_reducible rfl)
  try simp only [Act.put, List.setIfInBounds_toArray, List.set_cons_zero, List.set_cons_succ]
  refine wpAnyH_takeD (i := 4) (some 54) (v := ?_) rfl rfl (by kernel_rfl) (by kernel_rfl) (by kernel_rfl) (fun _ _ _ h => h) (Or.inl ⟨by rfl, ?_⟩) (by assumption) ?_
  rotate_left
  · (intro w hSw; (try dsimp only at hSw); go_simp; try with_reducible rfl)
  try simp only [Act.put, List.setIfInBounds_toArray, List.set_cons_zero, List.set_cons_succ]
  refine wpAnyH_takeD (i := 5) (some 55) (v := ?_) rfl rfl (by kernel_rfl) (by kernel_rfl) (by kernel_rfl) (fun _ _ _ h => h) (Or.inl ⟨by rfl, ?_⟩) (by assumption) ?_
  rotate_left
  · (intro w hSw; (try dsimp only at hSw); go_simp; try with_reducible rfl)
  try simp only [Act.put, List.setIfInBounds_toArray, List.set_cons_zero, List.set_cons_succ]
  refine wpAnyH_takeD (i := 10) (some 59) (v := ?_) rfl rfl (by kernel_rfl) (by kernel_rfl) (by kernel_rfl) (fun _ _ _ h => h) (Or.inl ⟨by rfl, ?_⟩) (by assumption) ?_
  rotate_left
  · (intro w hSw; (try dsimp only at hSw); go_simp; try with_reducible rfl)
  try simp only [Act.put, List.setIfInBounds_toArray, List.set_cons_zero, List.set_cons_succ]
  refine wpAnyH_takeD (i := 11) (some 60) (v := ?_) rfl rfl (by kernel_rfl) (by kernel_rfl) (by kernel_rfl) (fun _ _ _ h => h) (Or.inl ⟨by rfl, ?_⟩) (by assumption) ?_
  rotate_left
  · (intro w hSw; (try dsimp only at hSw); go_simp; try with_reducible rfl)
  try simp only [Act.put, List.setIfInBounds_toArray, List.set_cons_zero, List.set_cons_succ]
  refine wpAnyH_ready (rs := [6]) (by kernel_rfl) (by simp) ?_
  refine AllReadyH.cons (o := _) rfl (fun K hK => ?_) AllReadyH.nil
  go_simp
  refine (HBB.out _ (bel_d (HBX.out _ _ HT4.out))).mono ?_
  rintro e w5 ⟨hbq, p1, rfl, hpo, hpc⟩
  go_wp2_with fail
  refine hK.out _ _ trivial (fun hHeld => ?_)
  clear hK K
  try simp only [Act.put, List.setIfInBounds_toArray, List.set_cons_zero, List.set_cons_succ]
  have HTp1 := Lib.hid (HT4.out.drew.below hbq)
  have HOp1 := Lib.hid (hpo.weak HT4.out.drew.bel.size)
  have HCp1 := Lib.hid hpc
  clear hpo hpc hbq
  refine wpAnyH_takeD (i := 7) (some 49) (v := ?_) rfl rfl (by kernel_rfl) (by kernel_rfl) (by kernel_rfl) (fun _ _ _ h => h) (Or.inl ⟨by rfl, ?_⟩) (by assumption) ?_
  rotate_left
  · (intro w hSw; (try dsimp only at hSw); go_simp; try with_reducible rfl)
  try simp only [Act.put, List.setIfInBounds_toArray, List.set_cons_zero, List.set_cons_succ]
  refine wpAnyH_takeD (i := 8) (some 57) (v := ?_) rfl rfl (by kernel_rfl) (by kernel_rfl) (by kernel_rfl) (fun _ _ _ h => h) (Or.inl ⟨by rfl, ?_⟩) (by assumption) ?_
  rotate_left
  · (intro w hSw; (try dsimp only at hSw); go_simp; try with_reducible rfl)
  try simp only [Act.put, List.setIfInBounds_toArray, List.set_cons_zero, List.set_cons_succ]
  refine wpAnyH_takeD (i := 9) (some 58) (v := ?_) rfl rfl (by kernel_rfl) (by kernel_rfl) (by kernel_rfl) (fun _ _ _ h => h) (Or.inl ⟨by rfl, ?_⟩) (by assumption) ?_
  rotate_left
  · (intro w hSw; (try dsimp only at hSw); go_simp; try with_reducible rfl)
  try simp only [Act.put, List.setIfInBounds_toArray, List.set_cons_zero, List.set_cons_succ]
  refine wpAnyH_takeD (i := 12) (some 61) (v := ?_) rfl rfl (by kernel_rfl) (by kernel_rfl) (by kernel_rfl) (fun _ _ _ h => h) (Or.inl ⟨by rfl, ?_⟩) (by assumption) ?_
  rotate_left
  · (intro w hSw; (try dsimp only at hSw); go_simp; try with_reducible rfl)
  try simp only [Act.put, List.setIfInBounds_toArray, List.set_cons_zero, List.set_cons_succ]
  refine wpAnyH_ready (rs := [13]) (by kernel_rfl) (by simp) ?_
  refine AllReadyH.cons (o := _) rfl (fun K hK => ?_) AllReadyH.nil
  rw [if_pos (by rfl)]
  refine wp_stM (pre := [.int .i64 p0.st, .int .i64 p0.port, .int .i64 p0.to, .int .u32 p0.fi, .int .u32 p0.un, .int .u32 p0.ne, .int .u32 p0.wa, .int .i64 p0.wi, .int .i64 p0.ot, .slice p0.d.A p0.d.n p0.d.c, .slice p0.g.A p0.g.n p0.g.c]) (cs := [.int .i64 0, .int .i64 0, .int .i64 0, .int .u32 0, .int .u32 0, .int .u32 0, .int .u32 0, .int .i64 0, .int .i64 0, .slice none 0 0, .slice none 0 0]) (ds := [.int .i64 p1.st, .int .i64 p1.port, .int .i64 p1.to, .int .u32 p1.fi, .int .u32 p1.un, .int .u32 p1.ne, .int .u32 p1.wa, .int .i64 p1.wi, .int .i64 p1.ot, .slice p1.d.A p1.d.n p1.d.c, .slice p1.g.A p1.g.n p1.g.c]) (post := _) 26 _ _ rfl rfl (by rfl) (by rfl) (BlkV.fit HTp1.out.blk rfl) (by rfl) (peer_size (by rfl)) (by rfl) ?_
  intro w6 B6 h6
  refine hK.out _ _ trivial (fun hHeld => ?_)
  clear hK K
  try simp only [Act.put, List.setIfInBounds_toArray, List.set_cons_zero, List.set_cons_succ]
  refine wpAnyH_done (by kernel_rfl) ?_ _
  have HST : Hid (St w1 g X Pb.s0 w6) := Lib.hid ⟨_, HTp1.out.peer1 HOp1.out h6 (BlkV.fit B6 rfl), by unfold Two.ct Pb.ctOf; simp [HCp0.out, HCp1.out, Pb.s0, Two.zero]⟩
  have HBS := Lib.hid (show ∀ s v, St w1 g X s v → Below w.heap.size w v from fun s v ⟨z, h, _⟩ => HBX.out z v h)
  clear HTp1 HOp1 HT4 B6 h6 HBB hHeld HCp0 HCp1 HBX
  go_wp2_with fail
  go_loopg [19] 151 (fun gg s19 wx => ∃ (i : Nat) (s : Pb.Sy), i ≤ nl ∧ i ≤ 150 ∧ 150 - i < gg ∧ s19 = .int .i64 i ∧ Hid (St w1 g X s wx) ∧ Hid (s.ok X.cf) ∧ Hid (Pb.W s ≤ 3 * i))
  case atStart => exact ⟨0, Pb.s0, by omega, by omega, by omega, rfl, HST, Lib.hid (Pb.s0_ok _), Lib.hid (Nat.zero_le _)⟩
  case round =>
    obtain ⟨i, s, hi, hi2, hgg, rfl, HS, HOK, HWT⟩ := hrel
    obtain ⟨G1, rfl⟩ : ∃ G1, gk = G1 + 1 := ⟨gk - 1, by omega⟩
    clear HST
    go_upto_region 10 with (fail)
    go_cut [72] (fun s72 wx => s72 = .bool (decide (i < nl ∧ i < 150)) ∧ wr = wx)
    case first =>
      by_cases q1 : i < nl
      · have q1' : (i : Int) < (nl : Int) := by omega
        by_cases q2 : i < 150
        · have q2' : (i : Int) < 150 := by omega
          go_wp2_with fail
          go_meet
          exact ⟨congrArg Value.bool (by first | rfl | (simp [q1, q2]; done) | (simp [q1]; done) | (simp; omega)), rfl⟩
        · have q2' : ¬ (i : Int) < 150 := by omega
          go_wp2_with fail
          go_meet
          exact ⟨congrArg Value.bool (by first | rfl | (simp [q1, q2]; done) | (simp [q1]; done) | (simp; omega)), rfl⟩
      · have q1' : ¬ (i : Int) < (nl : Int) := by omega
        go_wp2_with fail
        go_meet
        exact ⟨congrArg Value.bool (by first | rfl | (simp [q1, q2]; done) | (simp [q1]; done) | (simp; omega)), rfl⟩
    case rest =>
    obtain ⟨rfl, rfl⟩ := hcut
    by_cases hq : i < nl ∧ i < 150
    · rw [decide_eq_true hq]
      as_aux_lemma =>
        obtain ⟨b, off, kd, a, sd, rfl, hbl, hrg, hkd, ha⟩ := (HACT.out.below (HBS.out _ _ HS.out)) i hq.1
        have HRG := Lib.hid hrg
        have HDO := Lib.hid (do_spec X HXOK.out s HOK.out (by have := HWT.out; omega) w1 wr g HS.out kd a hkd ha sd)
        have hi63 : (i : Int) < (nl : Int) := by omega
        clear hrg
        go_wp2_with (refine wpList_load_mid rfl 51 _ (by with_reducible rfl) b (off + i * 3) (by rfl) [.int .u8 kd, .bool sd, .int .u8 a] _ HRG.out Try.underlying51 rfl (by kernel_rfl) ?_)
        refine HDO.out.mono ?_
        rintro e w7 ⟨rfl, hS7⟩
        have HS7 := Lib.hid hS7
        have HOK7 := Lib.hid (Pb.doS_ok (kd := kd) (k := sd) (a := a) HOK.out)
        have HW7 := Lib.hid (show Pb.W (Pb.doS X.cf kd sd a s) ≤ 3 * (i + 1) by have := Pb.doS_W (kd := kd) (k := sd) (a := a) HOK.out; have := HWT.out; omega)
        have HBG := Lib.hid (begins_st X HXOK.out _ HOK7.out w1 w7 g hS7)
        clear hS7 HDO HRG
        go_wp2_with fail
        refine HBG.out.mono ?_
        rintro e w8 ⟨rfl, hb8⟩
        have HS8 := Lib.hid (HS7.out.below hb8)
        clear hb8 HBG HS7
        go_wp2_with fail
        go_roundg G1
        case measure => omega
        case rel => exact ⟨i + 1, _, by omega, by omega, by omega, by go_num, HS8, HOK7, HW7⟩
    · rw [decide_eq_false hq]
      have HPH : Hid (Pb.Ph X.cf 0 s) := Lib.hid (.inl ⟨rfl, by have := HWT.out; omega⟩)
      clear HWT hq hgg hi hi2
      go_wp2_with fail
      go_loopg [20] 2001 (fun gg s20 wx => ∃ (i : Nat) (s : Pb.Sy), i ≤ 2000 ∧ 2000 - i < gg ∧ s20 = .int .i64 i ∧ Hid (St w1 g X s wx) ∧ Hid (s.ok X.cf) ∧ Hid (Pb.Ph X.cf i s))
      case atStart => exact ⟨0, s, by omega, by omega, rfl, HS, HOK, HPH⟩
      case round =>
        clear HS HOK HPH
        obtain ⟨i, s, hi, hgg, rfl, HS, HOK, HPH⟩ := hrel
        obtain ⟨G2, rfl⟩ : ∃ G2, gk = G2 + 1 := ⟨gk - 1, by omega⟩
        have hlt : i < 2000 := HPH.out.less (by rw [HLA.out]; omega) (by rw [HLB.out]; omega)
        have hiz : (i : Int) < 2000 := by omega
        go_wp2_with fail
        go_loopg [21] 3 (fun gg s21 wx => ∃ (kk : Nat) (sK : Pb.Sy), kk ≤ 2 ∧ 2 - kk < gg ∧ s21 = .int .i64 kk ∧ Hid (St w1 g X sK wx) ∧ Hid (sK.ok X.cf) ∧ Hid (sK = if kk = 0 then s else if kk = 1 then Pb.turn X.cf false s else Pb.round X.cf s))
        case atStart => exact ⟨0, s, by omega, by omega, rfl, HS, HOK, Lib.hid rfl⟩
        case round =>
          clear HS
          obtain ⟨kk, sK, hkk, hgk, rfl, HSK, HOKK, HEQ⟩ := hrel
          obtain ⟨G3, rfl⟩ : ∃ G3, gk = G3 + 1 := ⟨gk - 1, by omega⟩
          by_cases hk2 : kk < 2
          · have hk2' : (kk : Int) < 2 := by omega
            as_aux_lemma =>
              obtain ⟨kb, hkb⟩ : ∃ b, ((kk : Int) == 1) = b := ⟨_, rfl⟩
              have HKB := Lib.hid hkb
              have HWK := Lib.hid (show Pb.W sK ≤ 450 by
                have h0 := HPH.out.w
                rw [HEQ.out]
                by_cases hk0 : kk = 0
                · rw [if_pos hk0]; exact h0
                · rw [if_neg hk0, if_pos (by omega)]
                  have := Pb.turn_W (k := false) HOK.out
                  omega)
              have HD1 := Lib.hid (do_k1 X HXOK.out sK HOKK.out (by have := HWK.out; omega) w1 wr g HSK.out kb)
              have HOK1 := Lib.hid (Pb.againS_ok (k := kb) HOKK.out)
              have HW1 := Lib.hid (show Pb.W (Pb.againS kb sK) ≤ 450 by rw [Pb.againS_W]; exact HWK.out)
              go_wp2_with fail
              refine HD1.out.mono ?_
              rintro e w7 ⟨rfl, hS7⟩
              have HD0 := Lib.hid (do_k0 X HXOK.out _ HOK1.out (by have := HW1.out; omega) w1 w7 g hS7 kb)
              have HOK2 := Lib.hid (Pb.sayS_ok (k := kb) HOK1.out)
              have HW2 := Lib.hid (show Pb.W (Pb.sayS X.cf kb (Pb.againS kb sK)) ≤ 460 by have := Pb.sayS_W X.cf kb (Pb.againS kb sK); have := HW1.out; omega)
              clear HD1 hS7 HW1
              go_wp2_with fail
              refine HD0.out.mono ?_
              rintro e w8 ⟨rfl, hS8⟩
              have HS8 := Lib.hid hS8
              clear HD0 hS8
              go_wp2_with fail
              go_loopg [23] 401 (fun gg s23 wx => ∃ (j : Nat) (sJ : Pb.Sy), j ≤ 400 ∧ 400 - j < gg ∧ s23 = .int .i64 j ∧ Hid (St w1 g X sJ wx) ∧ Hid (sJ.ok X.cf) ∧ Hid (Pb.drain (400 - j) sJ = Pb.turn X.cf kb sK) ∧ Hid (Pb.W sJ ≤ 460))
              case atStart => exact ⟨0, _, by omega, by omega, rfl, HS8, HOK2, Lib.hid rfl, HW2⟩
              case round =>
                clear HS8 HOK2 HW2
                obtain ⟨j, sJ, hj, hgj, rfl, HSJ, HOKJ, HDR, HWJ⟩ := hrel
                obtain ⟨G4, rfl⟩ : ∃ G4, gk = G4 + 1 := ⟨gk - 1, by omega⟩
                obtain ⟨z, hz1, hz2⟩ := HSJ.out
                obtain ⟨ln0, ln1⟩ := St.lens hz1 hz2
                have HZ1 := Lib.hid hz1
                have HL0 := Lib.hid ln0
                have HL1 := Lib.hid ln1
                have cw0 : wr.cell? ⟨g, 22, none⟩ = some (.slice z.A0 z.n0 z.c0) := hz1.blk.cell rfl
                have cw1 : wr.cell? ⟨g, 23, none⟩ = some (.slice z.A1 z.n1 z.c1) := hz1.blk.cell rfl
                have hlw := Pb.len_W sJ
                have hws : IntKind.i64.wrap ((z.n0 : Int) + (z.n1 : Int)) = (z.n0 : Int) + (z.n1 : Int) := IntWalk.i64_in _ (by have := HWJ.out; omega)
                clear hz1 hz2 ln0 ln1 hlw
                go_upto_region 25 with (fail)
                go_cut [122] (fun s122 wx => s122 = .bool (decide (j < 400 ∧ ¬ z.n0 + z.n1 = 0)) ∧ Hid (St w1 g X sJ wx) ∧ Hid (TwoM w1 g z wx))
                case first =>
                  by_cases q1 : j < 400
                  · have q1' : (j : Int) < 400 := by omega
                    by_cases q2 : z.n0 + z.n1 = 0
                    · have q2' : decide ((0 : Int) < (z.n0 : Int) + (z.n1 : Int)) = false := decide_eq_false (by omega)
                      go_quiet (fail)
                      go_wp2_with fail
                      go_meet
                      exact ⟨congrArg Value.bool (by first | rfl | (simp [q1, q2]; done) | (simp; omega)), Lib.hid (HSJ.out.below (bel_n (Below.refl _ _) _)), Lib.hid (HZ1.out.below (bel_n (Below.refl _ _) _))⟩
                    · have q2' : (0 : Int) < (z.n0 : Int) + (z.n1 : Int) := by omega
                      go_quiet (fail)
                      go_wp2_with fail
                      go_meet
                      exact ⟨congrArg Value.bool (by first | rfl | (simp [q1, q2]; done) | (simp; omega)), Lib.hid (HSJ.out.below (bel_n (Below.refl _ _) _)), Lib.hid (HZ1.out.below (bel_n (Below.refl _ _) _))⟩
                  · have q1' : decide ((j : Int) < 400) = false := decide_eq_false (by omega)
                    go_quiet (fail)
                    go_wp2_with fail
                    go_meet
                    exact ⟨congrArg Value.bool (by first | rfl | (simp [q1]; done) | (simp; omega)), Lib.hid (HSJ.out.below (bel_n (Below.refl _ _) _)), Lib.hid (HZ1.out.below (bel_n (Below.refl _ _) _))⟩
                case rest =>
                obtain ⟨rfl, HSC, HZC⟩ := hcut
                obtain ⟨wv, rfl⟩ : ∃ v, v = wc := ⟨wc, rfl⟩
                clear HSJ HZ1 cw0 cw1
                by_cases hq : j < 400 ∧ ¬ z.n0 + z.n1 = 0
                · rw [decide_eq_true hq]
                  have cw0 : wv.cell? ⟨g, 22, none⟩ = some (.slice z.A0 z.n0 z.c0) := HZC.out.blk.cell rfl
                  have hzz : ¬ sJ.A.length + sJ.B.length = 0 := by have := HL0.out; have := HL1.out; omega
                  have hA0 : ((z.n0 : Int) == 0) = decide (sJ.A.length = 0) := by
                    rw [← HL0.out]
                    by_cases h0 : z.n0 = 0
                    · rw [decide_eq_true h0]; simpa using h0
                    · rw [decide_eq_false h0]; simpa using h0
                  have HD2 := Lib.hid (do_k2 X HXOK.out sJ HOKJ.out (by have := HWJ.out; omega) w1 wv g HSC.out hzz)
                  have HZZ := Lib.hid hzz
                  have HOK9 := Lib.hid (Pb.comeS_ok (k := decide (sJ.A.length = 0)) (i := 0) HOKJ.out)
                  have HW9 := Lib.hid (show Pb.W (Pb.comeS (decide (sJ.A.length = 0)) 0 sJ) ≤ 460 by have := Pb.comeS_W' (k := decide (sJ.A.length = 0)) (i := 0) HOKJ.out; have := HWJ.out; omega)
                  have HDR9 := Lib.hid (show Pb.drain (400 - (j + 1)) (Pb.comeS (decide (sJ.A.length = 0)) 0 sJ) = Pb.turn X.cf kb sK by
                    rw [← HDR.out, show 400 - j = (400 - (j + 1)) + 1 by omega]
                    conv => rhs; unfold Pb.drain
                    rw [if_neg hzz])
                  generalize decide (sJ.A.length = 0) = kq at HD2 hA0 HOK9 HW9 HDR9
                  clear hzz
                  go_wp2_with fail
                  refine HD2.out.mono ?_
                  rintro e w9 ⟨rfl, hS9⟩
                  have HS9 := Lib.hid hS9
                  clear hS9 HD2
                  go_wp2_with fail
                  go_roundg G4
                  case measure => omega
                  case rel => exact ⟨j + 1, _, by omega, by omega, by go_num, HS9, HOK9, HDR9, HW9⟩
                · rw [decide_eq_false hq]
                  have HTU : Hid (sJ = Pb.turn X.cf kb sK) := Lib.hid (by
                    rw [← HDR.out]
                    by_cases h4 : j < 400
                    · rw [show 400 - j = (400 - (j + 1)) + 1 by omega]
                      unfold Pb.drain
                      rw [if_pos (by have := HL0.out; have := HL1.out; omega)]
                    · rw [show 400 - j = 0 by omega]
                      rfl)
                  have HBG := Lib.hid (begins_st X HXOK.out _ HOKJ.out w1 wv g HSC.out)
                  clear hq
                  go_wp2_with fail
                  refine HBG.out.mono ?_
                  rintro e w10 ⟨rfl, hb10⟩
                  have HS10 := Lib.hid (HSC.out.below hb10)
                  have HEQ' : Hid (sJ = if kk + 1 = 0 then s else if kk + 1 = 1 then Pb.turn X.cf false s else Pb.round X.cf s) := Lib.hid (by
                    rw [HTU.out, HEQ.out, ← HKB.out]
                    rcases (show kk = 0 ∨ kk = 1 by omega) with rfl | rfl
                    · first | rfl | simp
                    · first | rfl | simp)
                  clear hb10 HBG
                  go_wp2_with fail
                  go_roundg G3
                  case measure => omega
                  case rel => exact ⟨kk + 1, sJ, by omega, by omega, by go_num, HS10, HOKJ, HEQ'⟩
          · have hk2' : ¬ (kk : Int) < 2 := by omega
            have HRO : Hid (sK = Pb.round X.cf s) := Lib.hid (by rw [HEQ.out, if_neg (by omega), if_neg (by omega)])
            obtain ⟨z, hz1, hz2⟩ := HSK.out
            have HZ1 := Lib.hid hz1
            have HZ2 := Lib.hid hz2
            have HDN0 := Lib.hid (done_st0 X HXOK.out sK HOKK.out w1 wr g z hz1 hz2)
            have HDN1 := Lib.hid (done_st1 X HXOK.out sK HOKK.out w1 wr g z hz1 hz2)
            obtain ⟨d0, hd0⟩ : ∃ b, decide (sK.p.st = 4 ∧ sK.p.u = X.cf.L0 + 1) = b := ⟨_, rfl⟩
            obtain ⟨d1, hd1⟩ : ∃ b, decide (sK.q.st = 4 ∧ sK.q.u = X.cf.L1 + 1) = b := ⟨_, rfl⟩
            have HDO : Hid (d0 = true → d1 = true → Pb.done X.cf sK) := Lib.hid fun h0 h1 => by
              rw [← hd0] at h0
              rw [← hd1] at h1
              have := of_decide_eq_true h0
              have := of_decide_eq_true h1
              exact ⟨by omega, by omega, by omega, by omega⟩
            have HND : Hid (¬ (d0 = true ∧ d1 = true) → ¬ Pb.done X.cf sK) := Lib.hid fun h hd => h ⟨by rw [← hd0]; exact decide_eq_true ⟨hd.1, hd.2.2.1⟩, by rw [← hd1]; exact decide_eq_true ⟨hd.2.1, hd.2.2.2⟩⟩
            rw [hd0] at HDN0
            rw [hd1] at HDN1
            clear hd0 hd1 hz1 hz2
            go_wp2_with (refine wpList_ldM (pre := ([] : List Value)) (cs := [.int .i64 z.P0.st, .int .i64 z.P0.port, .int .i64 z.P0.to, .int .u32 z.P0.fi, .int .u32 z.P0.un, .int .u32 z.P0.ne, .int .u32 z.P0.wa, .int .i64 z.P0.wi, .int .i64 z.P0.ot, .slice z.P0.d.A z.P0.d.n z.P0.d.c, .slice z.P0.g.A z.P0.g.n z.P0.g.c]) (post := _) 26 _ _ (by with_reducible rfl) rfl (by rfl) (BlkV.fit HZ1.out.blk rfl) Try.underlying26 rfl (peer_size (by rfl)) ?_)
            refine (HDN0.out _ (Below.refl _ _)).mono ?_
            rintro e wa ⟨rfl, hba⟩
            have HBA := Lib.hid hba
            clear hba HDN0
            cases d0
            · have HP9 : Hid (Pb.Ph X.cf (i + 1) sK) := Lib.hid (by rw [HRO.out]; exact HPH.out.next HOK.out HXOK.out.ma HXOK.out.w0a HXOK.out.w1a (by rw [← HRO.out]; exact HND.out (fun h => by cases h.1)))
              have HS11 := Lib.hid (HSK.out.below HBA.out)
              go_wp2_with fail
              go_roundg G2
              case measure => omega
              case rel => exact ⟨i + 1, sK, by omega, by omega, by go_num, HS11, HOKK, HP9⟩
            · have HZA := Lib.hid (HZ1.out.below HBA.out)
              have e0 : wa.cell? ⟨g, 11, none⟩ = some (.int .i64 z.P1.st) := HZA.out.blk.cell rfl
              have e1 : wa.cell? ⟨g, 12, none⟩ = some (.int .i64 z.P1.port) := HZA.out.blk.cell rfl
              have e2 : wa.cell? ⟨g, 13, none⟩ = some (.int .i64 z.P1.to) := HZA.out.blk.cell rfl
              have e3 : wa.cell? ⟨g, 14, none⟩ = some (.int .u32 z.P1.fi) := HZA.out.blk.cell rfl
              have e4 : wa.cell? ⟨g, 15, none⟩ = some (.int .u32 z.P1.un) := HZA.out.blk.cell rfl
              have e5 : wa.cell? ⟨g, 16, none⟩ = some (.int .u32 z.P1.ne) := HZA.out.blk.cell rfl
              have e6 : wa.cell? ⟨g, 17, none⟩ = some (.int .u32 z.P1.wa) := HZA.out.blk.cell rfl
              have e7 : wa.cell? ⟨g, 18, none⟩ = some (.int .i64 z.P1.wi) := HZA.out.blk.cell rfl
              have e8 : wa.cell? ⟨g, 19, none⟩ = some (.int .i64 z.P1.ot) := HZA.out.blk.cell rfl
              have e9 : wa.cell? ⟨g, 20, none⟩ = some (.slice z.P1.d.A z.P1.d.n z.P1.d.c) := HZA.out.blk.cell rfl
              have e10 : wa.cell? ⟨g, 21, none⟩ = some (.slice z.P1.g.A z.P1.g.n z.P1.g.c) := HZA.out.blk.cell rfl
              go_wp2_with fail
              refine (HDN1.out _ HBA.out).mono ?_
              rintro e wb ⟨rfl, hbb⟩
              have HBB2 := Lib.hid (bel_then HBA.out hbb)
              clear hbb HDN1 e0 e1 e2 e3 e4 e5 e6 e7 e8 e9 e10
              cases d1
              · have HP9 : Hid (Pb.Ph X.cf (i + 1) sK) := Lib.hid (by rw [HRO.out]; exact HPH.out.next HOK.out HXOK.out.ma HXOK.out.w0a HXOK.out.w1a (by rw [← HRO.out]; exact HND.out (fun h => by cases h.2)))
                have HS11 := Lib.hid (HSK.out.below HBB2.out)
                go_wp2_with fail
                go_roundg G2
                case measure => omega
                case rel => exact ⟨i + 1, sK, by omega, by omega, by go_num, HS11, HOKK, HP9⟩
              · have hgo := St.gots HZ1.out HZ2.out HOKK.out (by simpa using HDO.out)
                have HG0 := Lib.hid (hgo.1.trans HLB.out)
                have HG1 := Lib.hid (hgo.2.trans HLA.out)
                have HZB := HZ1.out.below HBB2.out
                have c10 : wb.cell? ⟨g, 10, none⟩ = some (.slice z.P0.g.A m z.P0.g.c) := by rw [← HG0.out]; exact HZB.blk.cell rfl
                have c21 : wb.cell? ⟨g, 21, none⟩ = some (.slice z.P1.g.A n z.P1.g.c) := by rw [← HG1.out]; exact HZB.blk.cell rfl
                have HEND := Lib.hid (HBS.out _ _ (HSK.out.below HBB2.out))
                clear hgo HZB
                go_wp2_with fail
                go_ret
                exact ⟨rfl, HEND.out⟩
end Go.Proofs.Ytihhcalgjkkalaa
