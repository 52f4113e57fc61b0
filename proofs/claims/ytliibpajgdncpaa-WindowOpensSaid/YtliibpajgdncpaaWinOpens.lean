/- The walk of WindowOpens. -/
import Derived.Test.YtliibpajgdncpaaWinAwake
import Derived.Test.YtliibpajgdncpaaWinPlain2
import Derived.Deep.DeepCutAuto
namespace Go.Proofs.Ytliibpajgdncpaa
open Go.RowKit
set_option linter.unusedVariables false
theorem Win.scale_one (s : Int) (A : Option Addr) (c : Nat) : Win.scale [⟨3, A, 1, c, [s]⟩] = min s 14 := by
  unfold Win.scale
  have e : Win.at [⟨3, A, 1, c, [s]⟩] = 0 := by simp [Win.at]
  rw [e]
  simp
theorem Win.scale_nil : Win.scale [] = -1 := rfl
theorem Win.p2_yes {sa sb x : Int} (h : 0 ≤ sa) (h' : 0 ≤ sb) : Win.p2 sa sb x = x := by unfold Win.p2; rw [if_neg (by omega)]
theorem Win.p2_no {sa sb x : Int} (h : sa < 0 ∨ sb < 0) : Win.p2 sa sb x = 0 := by unfold Win.p2; rw [if_pos (by omega)]
theorem Win.p2_bd {sa sb : Int} (h0 : -1 ≤ sa) (h1 : sa ≤ 14) (k0 : -1 ≤ sb) (k1 : sb ≤ 14) : 0 ≤ Win.p2 sa sb sa ∧ Win.p2 sa sb sa ≤ 14 ∧ 0 ≤ Win.p2 sa sb sb ∧ Win.p2 sa sb sb ≤ 14 := by
  by_cases h : sb < 0 ∨ sa < 0
  · unfold Win.p2; rw [if_pos h, if_pos h]; omega
  · unfold Win.p2; rw [if_neg h, if_neg h]; omega
/-- the options of a first segment: none, or the scale alone -/
structure OptOne (w : World) (A : Option Addr) (n c : Nat) (sc : Int) : Prop where
  ex : ∃ l, Tcp.OptsRd w A n l ∧ (∀ o ∈ l, o.n ≤ 300) ∧ Win.scale l = sc
  n1 : n ≤ 1
theorem OptOne.below {w w' : World} {A : Option Addr} {n c : Nat} {sc : Int} (h : OptOne w A n c sc) (hb : Below w.heap.size w w') : OptOne w' A n c sc := by
  obtain ⟨⟨l, h1, h2, h3⟩, h4⟩ := h
  exact ⟨⟨l, h1.below hb, h2, h3⟩, h4⟩
theorem OptOne.nil (w : World) : OptOne w none 0 0 (-1) := ⟨⟨[], opts_nil w, none300, Win.scale_nil⟩, by omega⟩
theorem OptOne.made {w : World} {s : Int} (h0 : 0 ≤ s) (h1 : s ≤ 255) {T U : TypeId} {g k : Nat} (hd : BlkV w g T [.int .u8 s]) (ho : BlkV w k U [.int .i64 3, .slice (some ⟨g, 0, none⟩) 1 1]) : OptOne w (some ⟨k, 0, none⟩) 1 1 (min s 14) := by
  refine ⟨⟨[⟨3, some ⟨g, 0, none⟩, 1, 1, [s]⟩], ⟨rfl, ?_, fun _ => ⟨k, 0, rfl, ho.lt, ?_⟩⟩, ?_, Win.scale_one s _ _⟩, by omega⟩
  · intro o ho'
    rw [List.mem_singleton] at ho'
    subst ho'
    refine ⟨⟨rfl, fun _ => ⟨g, 0, rfl, hd.lt, fun j u hu => ?_⟩⟩, ?_, by simp, by simp, by simp, by simp⟩
    · match j with
      | 0 =>
        simp [bs] at hu
        subst hu
        exact hd.cell rfl
      | j + 1 => simp [bs] at hu
    · intro x hx
      simp only [List.mem_singleton] at hx
      subst hx
      exact ⟨h0, h1⟩
  · intro j o hj
    match j with
    | 0 =>
      simp at hj
      subst hj
      exact ⟨ho.cell rfl, ho.cell rfl⟩
    | j + 1 => simp at hj
  · intro o ho'
    rw [List.mem_singleton] at ho'
    subst ho'
    simp
def oneScale (has : Bool) (s : Int) : Int := if has = true then min s 14 else -1
/-- the same, as it lies in memory, from block b on -/
def OptB (w : World) (b : Nat) (A : Option Addr) (n c : Nat) (has : Bool) (s : Int) : Prop :=
  (has = false ∧ A = none ∧ n = 0 ∧ c = 0) ∨ (has = true ∧ n = 1 ∧ c = 1 ∧ ∃ g k T U, b ≤ g ∧ b ≤ k ∧ A = some ⟨k, 0, none⟩ ∧ BlkV w g T [.int .u8 s] ∧ BlkV w k U [.int .i64 3, .slice (some ⟨g, 0, none⟩) 1 1])
theorem OptB.set {w : World} {b : Nat} {A : Option Addr} {n c : Nat} {has : Bool} {s : Int} (h : OptB w b A n c has s) {p : Addr} (hp : p.block < b) (v : Value) : OptB (w.setCell p v) b A n c has s := by
  rcases h with h | ⟨h1, h2, h3, g, k, T, U, h4, h5, h6, h7, h8⟩
  · exact Or.inl h
  · exact Or.inr ⟨h1, h2, h3, g, k, T, U, h4, h5, h6, h7.other (by omega) v, h8.other (by omega) v⟩
theorem OptB.alloc {w : World} {b : Nat} {A : Option Addr} {n c : Nat} {has : Bool} {s : Int} (h : OptB w b A n c has s) (o : Obj) : OptB (w.alloc o) b A n c has s := by
  rcases h with h | ⟨h1, h2, h3, g, k, T, U, h4, h5, h6, h7, h8⟩
  · exact Or.inl h
  · exact Or.inr ⟨h1, h2, h3, g, k, T, U, h4, h5, h6, h7.alloc o, h8.alloc o⟩
theorem OptB.one {w : World} {b : Nat} {A : Option Addr} {n c : Nat} {has : Bool} {s : Int} (h : OptB w b A n c has s) (h0 : 0 ≤ s) (h1 : s ≤ 255) : OptOne w A n c (oneScale has s) := by
  rcases h with ⟨rfl, rfl, rfl, rfl⟩ | ⟨rfl, rfl, rfl, g, k, T, U, _, _, rfl, h7, h8⟩
  · exact OptOne.nil w
  · exact OptOne.made h0 h1 h7 h8
theorem wp_at {P : Program} {c : Code} {Q : Exit → Act → World → Prop} {a : Act} {w0 : World} {R : World → Prop} (h : R w0) (k : ∀ W, R W → Code.wp P c Q a W) : Code.wp P c Q a w0 := k w0 h
theorem Win.shl_bd {x p : Int} (h0 : 0 ≤ x) (h1 : x ≤ 65535) (p0 : 0 ≤ p) (p1 : p ≤ 14) : 0 ≤ x * 2 ^ p.toNat ∧ x * 2 ^ p.toNat ≤ 1073725440 := by
  have hp : (2 : Int) ^ p.toNat ≤ 2 ^ 14 := by exact_mod_cast Nat.pow_le_pow_right (by decide) (by omega)
  have hp0 : (0 : Int) < 2 ^ p.toNat := Int.pow_pos (by decide)
  constructor
  · exact Int.mul_nonneg h0 (Int.le_of_lt hp0)
  · have := Int.mul_le_mul h1 hp (Int.le_of_lt hp0) (by omega : (0:Int) ≤ 65535)
    simpa using this
set_option maxRecDepth 8000 in
set_option maxHeartbeats 16000000 in
theorem win_opens (a b x y s z : Int) (has is : Bool) (w : World) (ha0 : 0 ≤ a) (ha1 : a ≤ 4294967295) (hb0 : 0 ≤ b) (hb1 : b ≤ 4294967295) (hx0 : 0 ≤ x) (hx1 : x ≤ 65535) (hy0 : 0 ≤ y) (hy1 : y ≤ 65535) (hs0 : 0 ≤ s) (hs1 : s ≤ 255) (hz0 : 0 ≤ z) (hz1 : z ≤ 255) :
    Calls Try.prog 8 #[.int .u32 a, .int .u32 b, .int .u16 x, .int .u16 y, .int .u8 s, .int .u8 z, .bool has, .bool is] w fun e w' => e = .returned (.bool true) ∧ Below w.heap.size w w' := by
  have HA := win_awake w
  go_enter Try.func8, Try.ntmps8
  go_wp2_with fail
  refine HA.mono ?_
  rintro e w1 ⟨rfl, hbw⟩
  clear HA
  go_wp2_with fail
  refine (seq_step a 1 _).mono ?_
  rintro e w' ⟨rfl, rfl⟩
  obtain ⟨a', ha'⟩ : ∃ a', Seq.step a 1 = a' := ⟨_, rfl⟩
  rw [ha']
  have HA' := Lib.hid ha'
  clear ha'
  go_upto_if 38 with (fail)
  obtain ⟨W2, hW2⟩ : ∃ W2, W2 = (w1.alloc (.cells #[.int .i64 0, .int .i64 0, .int .u32 a, .int .u32 0, .int .i64 2, .int .i64 x, .int .i64 0, .slice none 0 0, .slice none 0 0] 30)).alloc (.cells #[.int .i64 0, .int .i64 0, .int .u32 b, .int .u32 a', .int .i64 18, .int .i64 y, .int .i64 0, .slice none 0 0, .slice none 0 0] 30) := ⟨_, rfl⟩
  have hbx : Below w.heap.size w W2 := by rw [hW2]; exact (hbw.alloc hbw.size _).alloc (by have := hbw.size; simp; omega) _
  have G1 : BlkV W2 w1.heap.size 30 [.int .i64 0, .int .i64 0, .int .u32 a, .int .u32 0, .int .i64 2, .int .i64 x, .int .i64 0, .slice none 0 0, .slice none 0 0] := by rw [hW2]; exact (BlkV.new _ _ _).alloc _
  have G2 : BlkV W2 (w1.heap.size + 1) 30 [.int .i64 0, .int .i64 0, .int .u32 b, .int .u32 a', .int .i64 18, .int .i64 y, .int .i64 0, .slice none 0 0, .slice none 0 0] := by rw [hW2]; exact BlkV.new_at _ _ _ (by simp)
  have hw1 := hbw.size
  rw [← hW2]
  clear hW2 hbw
  go_cut [] (fun wx => ∃ Ao no co, Below w.heap.size w wx ∧ BlkV wx w1.heap.size 30 [.int .i64 0, .int .i64 0, .int .u32 a, .int .u32 0, .int .i64 2, .int .i64 x, .int .i64 0, .slice Ao no co, .slice none 0 0] ∧ BlkV wx (w1.heap.size + 1) 30 [.int .i64 0, .int .i64 0, .int .u32 b, .int .u32 a', .int .i64 18, .int .i64 y, .int .i64 0, .slice none 0 0, .slice none 0 0] ∧ OptB wx (w1.heap.size + 2) Ao no co has s)
  case first =>
    have c7 := G1.cell (i := 7) rfl
    have z7 := G1.unfrozen 7
    have hlt := G1.lt
    have hlt2 := G2.lt
    cases has
    · go_wp2_with fail
      go_meet
      exact ⟨_, _, _, hbx, G1, G2, Or.inl ⟨rfl, rfl, rfl, rfl⟩⟩
    · go_wp2_with fail
      go_meet
      have hsz := hbx.size
      exact ⟨_, _, _, ((hbx.setCell hw1 _).alloc (by simp; omega) _).alloc (by simp; omega) _, ((BlkV.put_at G1 7 _ rfl).alloc _).alloc _, ((G2.other (by simp) _).alloc _).alloc _, Or.inr ⟨rfl, rfl, rfl, _, _, _, _, by omega, by omega, rfl, (BlkV.new_at _ _ [.int .u8 s] (by simp)).alloc _, BlkV.new_at _ _ [.int .i64 3, .slice (some ⟨W2.heap.size, 0, none⟩) 1 1] (by simp)⟩⟩
  case rest =>
  obtain ⟨Ao, no, co, hby, H1, H2, O1⟩ := hcut
  clear hbx G1 G2
  go_upto_if 44 with (fail)
  go_cut [] (fun wx => ∃ Bo mo do_, Below w.heap.size w wx ∧ BlkV wx w1.heap.size 30 [.int .i64 0, .int .i64 0, .int .u32 a, .int .u32 0, .int .i64 2, .int .i64 x, .int .i64 0, .slice Ao no co, .slice none 0 0] ∧ BlkV wx (w1.heap.size + 1) 30 [.int .i64 0, .int .i64 0, .int .u32 b, .int .u32 a', .int .i64 18, .int .i64 y, .int .i64 0, .slice Bo mo do_, .slice none 0 0] ∧ OptOne wx Ao no co (oneScale has s) ∧ OptOne wx Bo mo do_ (oneScale is z))
  case first =>
    obtain ⟨W2, hW2⟩ : ∃ W2, W2 = wc := ⟨_, rfl⟩
    rw [← hW2] at hby H1 H2 O1 ⊢
    clear hW2
    have c7 := H2.cell (i := 7) rfl
    have z7 := H2.unfrozen 7
    have hlt := H1.lt
    have hlt2 := H2.lt
    cases is
    · go_wp2_with fail
      go_meet
      exact ⟨_, _, _, hby, H1, H2, O1.one hs0 hs1, OptOne.nil _⟩
    · go_wp2_with fail
      go_meet
      have hsz := hby.size
      exact ⟨_, _, _, ((hby.setCell (by simp; omega) _).alloc (by simp; omega) _).alloc (by simp; omega) _, ((H1.other (by simp) _).alloc _).alloc _, ((BlkV.put_at H2 7 _ rfl).alloc _).alloc _, OptB.one (((O1.set (by simp) _).alloc _).alloc _) hs0 hs1, OptOne.made hz0 hz1 ((BlkV.new_at _ _ [.int .u8 z] (by simp)).alloc _) (BlkV.new_at _ _ [.int .i64 3, .slice (some ⟨W2.heap.size, 0, none⟩) 1 1] (by simp))⟩
  case rest =>
  obtain ⟨Bo, mo, do_, hbx, G1, G2, P1, P2⟩ := hcut
  clear hby H1 H2 O1
  obtain ⟨sa, hsa⟩ : ∃ sa, oneScale has s = sa := ⟨_, rfl⟩
  obtain ⟨sb, hsb⟩ : ∃ sb, oneScale is z = sb := ⟨_, rfl⟩
  rw [hsa] at P1
  rw [hsb] at P2
  have hsab : -1 ≤ sa ∧ sa ≤ 14 := by rw [← hsa]; unfold oneScale; split <;> omega
  have hsbb : -1 ≤ sb ∧ sb ≤ 14 := by rw [← hsb]; unfold oneScale; split <;> omega
  obtain ⟨mx, hmx⟩ : ∃ mx, max x 1 = mx := ⟨_, rfl⟩
  obtain ⟨my, hmy⟩ : ∃ my, max y 1 = my := ⟨_, rfl⟩
  obtain ⟨b', hb'⟩ : ∃ b', Seq.step b 1 = b' := ⟨_, rfl⟩
  obtain ⟨am, ham⟩ : ∃ am, Seq.step a (1 + my) = am := ⟨_, rfl⟩
  obtain ⟨p, hp⟩ : ∃ p, Win.p2 sa sb sa = p := ⟨_, rfl⟩
  obtain ⟨q, hq⟩ : ∃ q, Win.p2 sa sb sb = q := ⟨_, rfl⟩
  have hpb : 0 ≤ p ∧ p ≤ 14 ∧ 0 ≤ q ∧ q ≤ 14 := by rw [← hp, ← hq]; exact Win.p2_bd hsab.1 hsab.2 hsbb.1 hsbb.2
  have E1 : Win.pass ⟨0, 0, 0, 0, 0, false⟩ ⟨0, 0, 0, 0, 0, false⟩ a 0 x (State.size 0 2) sa (State.has 2 2) (State.has 2 16) = ((⟨a', a', a, mx, sa, true⟩, ⟨0, 0, 0, 0, 0, false⟩), 0) := by
    rw [show State.size 0 2 = 1 by decide +kernel, show State.has 2 2 = true by decide +kernel, show State.has 2 16 = false by decide +kernel, ← hmx, ← HA'.out]
    exact Win.open1 hx0 hx1 0
  have E2 : Win.pass ⟨0, 0, 0, 0, 0, false⟩ ⟨a', a', a, mx, sa, true⟩ b a' y (State.size 0 18) sb (State.has 18 2) (State.has 18 16) = ((⟨b', b', b, my, q, true⟩, ⟨a', am, a', mx, p, true⟩), 0) := by
    rw [show State.size 0 18 = 1 by decide +kernel, show State.has 18 2 = true by decide +kernel, show State.has 18 16 = true by decide +kernel, ← hmx, ← HA'.out, ← hp, ← hq, ← ham, ← hb', ← hmy]
    exact Win.open2 hx0 hx1 hy0 hy1 hsab.1 hsab.2 hsbb.1 hsbb.2
  have E3 : Win.pass ⟨a', am, a', mx, p, true⟩ ⟨b', b', b, my, q, true⟩ a' b' x (State.size 0 16) (-1) (State.has 16 2) (State.has 16 16) = ((⟨a', am, a', max mx (max (x * 2 ^ p.toNat) 1), p, true⟩, ⟨b', Seq.step b (1 + max (x * 2 ^ p.toNat) 1), b', my, q, true⟩), 0) := by
    rw [show State.size 0 16 = 0 by decide +kernel, show State.has 16 2 = false by decide +kernel, show State.has 16 16 = true by decide +kernel, ← hmx, ← HA'.out, ← ham, ← hb', ← hmy]
    exact Win.open3 hx0 hx1 hy0 hy1 hpb.1 hpb.2.1 hpb.2.2.1 hpb.2.2.2
  have HC1 : Hid (∀ w' : World, Below wc.heap.size wc w' → Calls Try.prog 20 #[.agg #[.int .u32 0, .int .u32 0, .int .u32 0, .int .i64 0, .int .i64 0, .bool false, .int .u32 0, .int .u32 0, .int .u32 0, .int .i64 0, .int .i64 0, .bool false], .int .i64 0, .agg #[.int .i64 0, .int .i64 0, .int .u32 a, .int .u32 0, .int .i64 2, .int .i64 x, .int .i64 0, .slice Ao no co, .slice none 0 0]] w' fun e w'' => e = .returned (.tuple #[.agg #[.int .u32 a', .int .u32 a', .int .u32 a, .int .i64 mx, .int .i64 sa, .bool true, .int .u32 0, .int .u32 0, .int .u32 0, .int .i64 0, .int .i64 0, .bool false], .int .i64 0]) ∧ Below w'.heap.size w' w'') := Lib.hid fun w' hb => by
    obtain ⟨⟨l, k1, k2, k3⟩, k4⟩ := P1.below hb
    have h := win_pass0 0 0 0 0 0 false 0 0 0 0 0 false 0 0 a 0 2 x 0 Ao no co none 0 0 l w' k1 (by omega) k2 (by omega)
    rw [k3, E1] at h
    exact h
  have HC2 : Hid (∀ w' : World, Below wc.heap.size wc w' → Calls Try.prog 20 #[.agg #[.int .u32 a', .int .u32 a', .int .u32 a, .int .i64 mx, .int .i64 sa, .bool true, .int .u32 0, .int .u32 0, .int .u32 0, .int .i64 0, .int .i64 0, .bool false], .int .i64 1, .agg #[.int .i64 0, .int .i64 0, .int .u32 b, .int .u32 a', .int .i64 18, .int .i64 y, .int .i64 0, .slice Bo mo do_, .slice none 0 0]] w' fun e w'' => e = .returned (.tuple #[.agg #[.int .u32 a', .int .u32 am, .int .u32 a', .int .i64 mx, .int .i64 p, .bool true, .int .u32 b', .int .u32 b', .int .u32 b, .int .i64 my, .int .i64 q, .bool true], .int .i64 0]) ∧ Below w'.heap.size w' w'') := Lib.hid fun w' hb => by
    obtain ⟨⟨l, k1, k2, k3⟩, k4⟩ := P2.below hb
    have h := win_pass1 a' a' a mx sa true 0 0 0 0 0 false 0 0 b a' 18 y 0 Bo mo do_ none 0 0 l w' k1 (by omega) k2 (by omega)
    rw [k3, E2] at h
    exact h
  obtain ⟨mw, hmw⟩ : ∃ mw, max mx (max (x * 2 ^ p.toNat) 1) = mw := ⟨_, rfl⟩
  obtain ⟨bm, hbm⟩ : ∃ bm, Seq.step b (1 + max (x * 2 ^ p.toNat) 1) = bm := ⟨_, rfl⟩
  rw [hmw, hbm] at E3
  have HC3 : Hid (∀ w' : World, Calls Try.prog 20 #[.agg #[.int .u32 a', .int .u32 am, .int .u32 a', .int .i64 mx, .int .i64 p, .bool true, .int .u32 b', .int .u32 b', .int .u32 b, .int .i64 my, .int .i64 q, .bool true], .int .i64 0, .agg #[.int .i64 0, .int .i64 0, .int .u32 a', .int .u32 b', .int .i64 16, .int .i64 x, .int .i64 0, .slice none 0 0, .slice none 0 0]] w' fun e w'' => e = .returned (.tuple #[.agg #[.int .u32 a', .int .u32 am, .int .u32 a', .int .i64 mw, .int .i64 p, .bool true, .int .u32 b', .int .u32 bm, .int .u32 b', .int .i64 my, .int .i64 q, .bool true], .int .i64 0]) ∧ Below w'.heap.size w' w'') := Lib.hid fun w' => by
    have h := win_pass0 a' am a' mx p true b' b' b my q true 0 0 a' b' 16 x 0 none 0 0 none 0 0 [] w' (opts_nil _) (by omega) none300 (by omega)
    rw [Win.scale_nil, E3] at h
    exact h
  clear E1 E2 E3
  have HSA := Lib.hid hsa
  have HSB := Lib.hid hsb
  have HMX := Lib.hid hmx
  have HMY := Lib.hid hmy
  have HB' := Lib.hid hb'
  have HAM := Lib.hid ham
  have HPP := Lib.hid hp
  have HQQ := Lib.hid hq
  have HBM := Lib.hid hbm
  clear hsa hsb hmx hmy hb' ham hp hq hmw hbm
  have g1 := G1.nine
  obtain ⟨c0, c1, c2, c3, c4, c5, c6, c7, c8⟩ := g1
  have hl1 := G1.lt
  go_wp2_with fail
  refine (HC1.out _ (Below.refl _ _)).mono ?_
  rintro e w3 ⟨rfl, hb3⟩
  have K2 := G2.below hb3
  have hbw3 := bel_then hbx hb3
  obtain ⟨W4, hW4⟩ : ∃ W4, W4 = w3.alloc (.cells #[.int .u32 a', .int .u32 a', .int .u32 a, .int .i64 mx, .int .i64 sa, .bool true, .int .u32 0, .int .u32 0, .int .u32 0, .int .i64 0, .int .i64 0, .bool false] 47) := ⟨_, rfl⟩
  have hb4 : Below wc.heap.size wc W4 := by rw [hW4]; exact bel_grow hb3 _
  have S4 : BlkV W4 w3.heap.size 47 [.int .u32 a', .int .u32 a', .int .u32 a, .int .i64 mx, .int .i64 sa, .bool true, .int .u32 0, .int .u32 0, .int .u32 0, .int .i64 0, .int .i64 0, .bool false] := by rw [hW4]; exact BlkV.new _ _ _
  have K4 := G2.below hb4
  have hbw4 := bel_then hbx hb4
  have hne : ¬ w3.heap.size = w1.heap.size + 1 := by have := K2.lt; omega
  have hbx0 := hbw3.size
  go_upto_region 10 with fail
  rw [← hW4]
  clear hW4 hb3 K2 hbw3 G1 c0 c1 c2 c3 c4 c5 c6 c7 c8 hl1
  obtain ⟨c0, c1, c2, c3, c4, c5, c6, c7, c8⟩ := K4.nine
  obtain ⟨a0, a1, a2, a3, a4, a5, a6, a7, a8, a9, a10, a11⟩ := S4.twelve
  have hl1 := K4.lt
  have hl2 := S4.lt
  go_wp2_with fail
  refine (HC2.out _ hb4).mono ?_
  rintro e w5 ⟨rfl, hb5⟩
  have S5 := S4.below hb5
  have hbw5 := bel_then hbw4 hb5
  clear HC1 HC2 K4 S4 hb4 hbw4 hb5 G2 hbx P1 P2 c0 c1 c2 c3 c4 c5 c6 c7 c8 hl1 hl2 a0 a1 a2 a3 a4 a5 a6 a7 a8 a9 a10 a11
  obtain ⟨a0, a1, a2, a3, a4, a5, a6, a7, a8, a9, a10, a11⟩ := S5.twelve
  obtain ⟨z0, z1, z2, z3, z4, z5, z6, z7, z8, z9, z10, z11⟩ := S5.free12
  have hl1 := S5.lt
  have hws : w.heap.size ≤ w3.heap.size := by have := S5.lt; have := hbx0; omega
  have HPQ1 : Hid (has = true → is = true → p = min s 14 ∧ q = min z 14) := Lib.hid (fun h h' => by
    have k1 := HSA.out
    have k2 := HSB.out
    unfold oneScale at k1 k2
    rw [if_pos h] at k1
    rw [if_pos h'] at k2
    have k3 := HPP.out
    have k4 := HQQ.out
    rw [Win.p2_yes (by omega) (by omega)] at k3 k4
    omega)
  have HPQ0 : Hid ((has = false ∨ is = false) → p = 0 ∧ q = 0) := Lib.hid (fun h => by
    have k1 := HSA.out
    have k2 := HSB.out
    have k3 := HPP.out
    have k4 := HQQ.out
    unfold oneScale at k1 k2
    have h2 : sa < 0 ∨ sb < 0 := by
      rcases h with h | h
      · rw [if_neg (by simp [h])] at k1; omega
      · rw [if_neg (by simp [h])] at k2; omega
    rw [Win.p2_no h2] at k3 k4
    omega)
  go_upto_if 71 with (fail)
  all_goals
    go_cut [22, 23] (fun s22 s23 wx => s22 = .int .i64 p ∧ s23 = .int .i64 q ∧ Below w.heap.size w wx ∧ BlkV wx w3.heap.size 47 [.int .u32 a', .int .u32 am, .int .u32 a', .int .i64 mx, .int .i64 p, .bool true, .int .u32 b', .int .u32 b', .int .u32 b, .int .i64 my, .int .i64 q, .bool true])
    case first =>
      have hpq : Hid ((has = true ∧ is = true ∧ p = min s 14 ∧ q = min z 14) ∨ ((has = false ∨ is = false) ∧ p = 0 ∧ q = 0)) := Lib.hid (by
        by_cases h : has = true ∧ is = true
        · exact Or.inl ⟨h.1, h.2, HPQ1.out h.1 h.2⟩
        · refine Or.inr ⟨?_, HPQ0.out ?_⟩ <;> (cases has <;> cases is <;> simp at h ⊢))
      clear HPQ0 HPQ1 HSA HSB HPP HQQ
      have hput : Hid (Below w.heap.size w ((((((((((((w5.setCell ⟨w3.heap.size, 0, none⟩ (.int .u32 a')).setCell ⟨w3.heap.size, 1, none⟩ (.int .u32 am)).setCell ⟨w3.heap.size, 2, none⟩ (.int .u32 a')).setCell ⟨w3.heap.size, 3, none⟩ (.int .i64 mx)).setCell ⟨w3.heap.size, 4, none⟩ (.int .i64 p)).setCell ⟨w3.heap.size, 5, none⟩ (.bool true)).setCell ⟨w3.heap.size, 6, none⟩ (.int .u32 b')).setCell ⟨w3.heap.size, 7, none⟩ (.int .u32 b')).setCell ⟨w3.heap.size, 8, none⟩ (.int .u32 b)).setCell ⟨w3.heap.size, 9, none⟩ (.int .i64 my)).setCell ⟨w3.heap.size, 10, none⟩ (.int .i64 q)).setCell ⟨w3.heap.size, 11, none⟩ (.bool true))) := Lib.hid (Below.put12 hbw5 hws)
      rcases hpq.out with ⟨h1, h2, h3, h4⟩ | ⟨h1, h3, h4⟩
      · have HPV := Lib.hid h3
        have HQV := Lib.hid h4
        subst h1 h2
        clear hpq h3 h4
        go_wp2_with fail
        all_goals
          go_meet
          first
            | (exfalso; refine absurd trivial ?_; assumption)
            | exact ⟨val_int (by have := HPV.out; first | omega | (split <;> omega)), val_int (by have := HQV.out; first | omega | (split <;> omega)), Below.put12 hbw5 hws, BlkV.put12 S5⟩
      · have HPV := Lib.hid h3
        have HQV := Lib.hid h4
        clear hpq h3 h4
        cases has <;> cases is
        all_goals
          first
          | (exfalso; simp at h1; done)
          | (clear h1
             go_wp2_with fail
             all_goals
               go_meet
               exact ⟨val_int (by have := HPV.out; first | omega | (split <;> omega)), val_int (by have := HQV.out; first | omega | (split <;> omega)), Below.put12 hbw5 hws, BlkV.put12 S5⟩)
    case rest =>
      obtain ⟨rfl, rfl, hby, S6⟩ := hcut
      clear hbw5 S5 a0 a1 a2 a3 a4 a5 a6 a7 a8 a9 a10 a11 z0 z1 z2 z3 z4 z5 z6 z7 z8 z9 z10 z11 hl1 HPQ1 HPQ0 HSA HSB HPP HQQ HMX
      obtain ⟨a0, a1, a2, a3, a4, a5, a6, a7, a8, a9, a10, a11⟩ := S6.twelve
      have hl1 := S6.lt
      have hnx0 : ∀ w', (Instr.indexAt 47 (.pointer (some ⟨w3.heap.size, 0, none⟩)) (.int .i64 0)).run Try.prog w' = .ok (.pointer (some ⟨w3.heap.size, 0, none⟩)) w' := fun w' => win_at w3.heap.size 0 (by decide) w'
      have hnx1 : ∀ w', (Instr.indexAt 47 (.pointer (some ⟨w3.heap.size, 0, none⟩)) (.int .i64 1)).run Try.prog w' = .ok (.pointer (some ⟨w3.heap.size, 6, none⟩)) w' := fun w' => win_at w3.heap.size 1 (by decide) w'
      have hsam := HAM.out
      have hsb := HB'.out
      have hsa := HA'.out
      have hwr1 : IntKind.i64.wrap 1 = 1 := by decide
      have hwr0 : IntKind.i64.wrap 0 = 0 := by decide
      rcases (show y = 0 ∨ 1 ≤ y by omega) with hy | hy
      · obtain rfl : my = 1 := by have := HMY.out; omega
        have hy1 : y < 1 := by omega
        have hw1 : IntKind.i64.wrap (1 + 1) = 2 := by decide
        have hsam2 : Seq.step a 2 = am := hsam
        clear HMY hy hsam
        go_wp2_with fail
        go_quiet ((go_at_call 22; exact step_q _ _ _ _))
        clear hsam2 hsb hsa hw1 hy1
        have hba : Below w.heap.size w (wc.drewN nq) := bel_drewN hby _
        have S7 := S6.drewN nq
        clear hby S6 a0 a1 a2 a3 a4 a5 a6 a7 a8 a9 a10 a11 hl1
        obtain ⟨W6, hW6⟩ : ∃ W6, W6 = wc.drewN nq := ⟨_, rfl⟩
        rw [← hW6] at hba S7
        go_wp2_with fail
        rw [← hW6]
        clear hW6
        refine (seq_step a 1 _).mono ?_
        rintro e w' ⟨rfl, rfl⟩
        rw [HA'.out]
        go_wp2_with fail
        refine (seq_step b 1 _).mono ?_
        rintro e w' ⟨rfl, rfl⟩
        rw [HB'.out]
        have S8 := S7.alloc (.cells #[.int .i64 0, .int .i64 0, .int .u32 a', .int .u32 b', .int .i64 16, .int .i64 x, .int .i64 0, .slice none 0 0, .slice none 0 0] 30)
        obtain ⟨a0, a1, a2, a3, a4, a5, a6, a7, a8, a9, a10, a11⟩ := S8.twelve
        have hl1 := S8.lt
        have hl2 := S7.lt
        go_wp2_with fail
        refine (HC3.out _).mono ?_
        rintro e w7 ⟨rfl, hb7⟩
        have S9 := S8.below hb7
        have hba7 := bel_then (hba.alloc hba.size _) hb7
        clear HC3 hb7 S8 S7 hba a0 a1 a2 a3 a4 a5 a6 a7 a8 a9 a10 a11 hl1 hl2
        obtain ⟨a0, a1, a2, a3, a4, a5, a6, a7, a8, a9, a10, a11⟩ := S9.twelve
        obtain ⟨z0, z1, z2, z3, z4, z5, z6, z7, z8, z9, z10, z11⟩ := S9.free12
        have hl1 := S9.lt
        go_upto_region 20 with fail
        refine wp_at (R := fun W => Below w.heap.size w W ∧ BlkV W w3.heap.size 47 [.int .u32 a', .int .u32 am, .int .u32 a', .int .i64 mw, .int .i64 p, .bool true, .int .u32 b', .int .u32 bm, .int .u32 b', .int .i64 1, .int .i64 q, .bool true]) ⟨Below.put12 hba7 hws, BlkV.put12 S9⟩ ?_
        clear S9 hba7 a0 a1 a2 a3 a4 a5 a6 a7 a8 a9 a10 a11 z0 z1 z2 z3 z4 z5 z6 z7 z8 z9 z10 z11 hl1
        rintro W7 ⟨hbF, SF⟩
        obtain ⟨a0, a1, a2, a3, a4, a5, a6, a7, a8, a9, a10, a11⟩ := SF.twelve
        have hl1 := SF.lt
        obtain ⟨vb0, vb1⟩ := Win.shl_bd hx0 hx1 hpb.1 hpb.2.1
        have hbm := HBM.out
        have hsa := HA'.out
        have hsh : x * 2 ^ min p.toNat 64 = x * 2 ^ p.toNat := by rw [show min p.toNat 64 = p.toNat by omega]
        obtain ⟨v, he⟩ : ∃ v, x * 2 ^ p.toNat = v := ⟨_, rfl⟩
        rw [he] at vb0 vb1 hbm hsh
        have hwv : IntKind.i64.wrap v = v := IntWalk.i64_in _ (by omega)
        have hwv2 : wrap64 v = v := IntWalk.wrap64_in _ (by omega)
        clear HBM
        rcases (show v = 0 ∨ 1 ≤ v by omega) with hv | hv
        · have hv1 : v < 1 := by omega
          have hbm2 : Seq.step b 2 = bm := by rw [← hbm, show max v 1 = 1 by omega]; rfl
          have hw1 : IntKind.i64.wrap (1 + 1) = 2 := by decide
          clear hv hbm
          go_quiet ((go_at_call 22; exact step_q _ _ _ _))
          clear hbm2 hsa hw1 hv1 he hsh
          go_wp2_with fail
          go_ret
          exact ⟨rfl, bel_drewN hbF _⟩
        · have hbm2 : Seq.step b (1 + v) = bm := by rw [← hbm, show max v 1 = v by omega]
          have hw1 : IntKind.i64.wrap (1 + v) = 1 + v := IntWalk.i64_in _ (by omega)
          clear hbm
          go_quiet ((go_at_call 22; exact step_q _ _ _ _))
          clear hbm2 hsa hw1 he hsh
          go_wp2_with fail
          go_ret
          exact ⟨rfl, bel_drewN hbF _⟩
      · obtain rfl : my = y := by have := HMY.out; omega
        have hw1 : IntKind.i64.wrap (1 + my) = 1 + my := IntWalk.i64_in _ (by omega)
        clear HMY
        go_wp2_with fail
        go_quiet ((go_at_call 22; exact step_q _ _ _ _))
        clear hsam hsb hsa hw1
        have hba : Below w.heap.size w (wc.drewN nq) := bel_drewN hby _
        have S7 := S6.drewN nq
        clear hby S6 a0 a1 a2 a3 a4 a5 a6 a7 a8 a9 a10 a11 hl1
        obtain ⟨W6, hW6⟩ : ∃ W6, W6 = wc.drewN nq := ⟨_, rfl⟩
        rw [← hW6] at hba S7
        go_wp2_with fail
        rw [← hW6]
        clear hW6
        refine (seq_step a 1 _).mono ?_
        rintro e w' ⟨rfl, rfl⟩
        rw [HA'.out]
        go_wp2_with fail
        refine (seq_step b 1 _).mono ?_
        rintro e w' ⟨rfl, rfl⟩
        rw [HB'.out]
        have S8 := S7.alloc (.cells #[.int .i64 0, .int .i64 0, .int .u32 a', .int .u32 b', .int .i64 16, .int .i64 x, .int .i64 0, .slice none 0 0, .slice none 0 0] 30)
        obtain ⟨a0, a1, a2, a3, a4, a5, a6, a7, a8, a9, a10, a11⟩ := S8.twelve
        have hl1 := S8.lt
        have hl2 := S7.lt
        go_wp2_with fail
        refine (HC3.out _).mono ?_
        rintro e w7 ⟨rfl, hb7⟩
        have S9 := S8.below hb7
        have hba7 := bel_then (hba.alloc hba.size _) hb7
        clear HC3 hb7 S8 S7 hba a0 a1 a2 a3 a4 a5 a6 a7 a8 a9 a10 a11 hl1 hl2
        obtain ⟨a0, a1, a2, a3, a4, a5, a6, a7, a8, a9, a10, a11⟩ := S9.twelve
        obtain ⟨z0, z1, z2, z3, z4, z5, z6, z7, z8, z9, z10, z11⟩ := S9.free12
        have hl1 := S9.lt
        go_upto_region 20 with fail
        refine wp_at (R := fun W => Below w.heap.size w W ∧ BlkV W w3.heap.size 47 [.int .u32 a', .int .u32 am, .int .u32 a', .int .i64 mw, .int .i64 p, .bool true, .int .u32 b', .int .u32 bm, .int .u32 b', .int .i64 my, .int .i64 q, .bool true]) ⟨Below.put12 hba7 hws, BlkV.put12 S9⟩ ?_
        clear S9 hba7 a0 a1 a2 a3 a4 a5 a6 a7 a8 a9 a10 a11 z0 z1 z2 z3 z4 z5 z6 z7 z8 z9 z10 z11 hl1
        rintro W7 ⟨hbF, SF⟩
        obtain ⟨a0, a1, a2, a3, a4, a5, a6, a7, a8, a9, a10, a11⟩ := SF.twelve
        have hl1 := SF.lt
        obtain ⟨vb0, vb1⟩ := Win.shl_bd hx0 hx1 hpb.1 hpb.2.1
        have hbm := HBM.out
        have hsa := HA'.out
        have hsh : x * 2 ^ min p.toNat 64 = x * 2 ^ p.toNat := by rw [show min p.toNat 64 = p.toNat by omega]
        obtain ⟨v, he⟩ : ∃ v, x * 2 ^ p.toNat = v := ⟨_, rfl⟩
        rw [he] at vb0 vb1 hbm hsh
        have hwv : IntKind.i64.wrap v = v := IntWalk.i64_in _ (by omega)
        have hwv2 : wrap64 v = v := IntWalk.wrap64_in _ (by omega)
        clear HBM
        rcases (show v = 0 ∨ 1 ≤ v by omega) with hv | hv
        · have hv1 : v < 1 := by omega
          have hbm2 : Seq.step b 2 = bm := by rw [← hbm, show max v 1 = 1 by omega]; rfl
          have hw1 : IntKind.i64.wrap (1 + 1) = 2 := by decide
          clear hv hbm
          go_quiet ((go_at_call 22; exact step_q _ _ _ _))
          clear hbm2 hsa hw1 hv1 he hsh
          go_wp2_with fail
          go_ret
          exact ⟨rfl, bel_drewN hbF _⟩
        · have hbm2 : Seq.step b (1 + v) = bm := by rw [← hbm, show max v 1 = v by omega]
          have hw1 : IntKind.i64.wrap (1 + v) = 1 + v := IntWalk.i64_in _ (by omega)
          clear hbm
          go_quiet ((go_at_call 22; exact step_q _ _ _ _))
          clear hbm2 hsa hw1 he hsh
          go_wp2_with fail
          go_ret
          exact ⟨rfl, bel_drewN hbF _⟩
end Go.Proofs.Ytliibpajgdncpaa
