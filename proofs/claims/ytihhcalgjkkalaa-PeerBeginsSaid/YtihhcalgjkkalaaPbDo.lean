/- What happens between two, whatever it is. (Printed by tools/gen_pbjoin.py.) -/
import Derived.Test.YtihhcalgjkkalaaPbDoA
import Derived.Test.YtihhcalgjkkalaaPbDoS
import Derived.Test.YtihhcalgjkkalaaPbDoT
import Derived.Test.YtihhcalgjkkalaaPbDoL
import Derived.Test.YtihhcalgjkkalaaPbDoC0
import Derived.Test.YtihhcalgjkkalaaPbDoC1
import Derived.Test.YtihhcalgjkkalaaPbStep
namespace Go.Proofs.Ytihhcalgjkkalaa
open Go.RowKit
set_option linter.unusedVariables false
/-- the two, as the numbers say -/
def St (w0 : World) (g : Nat) (x : Pb.Cc) (s : Pb.Sy) (w : World) : Prop := ∃ z, TwoM w0 g z w ∧ z.ct = Pb.ctOf x s
theorem St.below {w0 w w' : World} {g : Nat} {x : Pb.Cc} {s : Pb.Sy} (h : St w0 g x s w) (hb : Below w.heap.size w w') : St w0 g x s w' := by
  obtain ⟨z, h1, h2⟩ := h
  exact ⟨z, h1.below hb, h2⟩
theorem do_side0 (x : Pb.Cc) (hx : x.ok) (s : Pb.Sy) (hs : s.ok x.cf) (hW : Pb.W s ≤ 5000) (w0 w : World) (g : Nat) (z : Two) (h : TwoM w0 g z w) (hct : z.ct = Pb.ctOf x s) (kd a : Nat) (hk : kd ≤ 255) (ha : a ≤ 255) :
    Calls Try.prog 15 #[.pointer (some ⟨g, 0, none⟩), .agg #[.int .u8 kd, .bool false, .int .u8 a], .int .i64 x.m] w fun e w' => e = .returned (.tuple #[]) ∧ St w0 g x (Pb.doS x.cf kd false a s) w' := by
  have hp : z.P0.con = Pb.pe0 x s.p := congrArg Pb.Ct.p hct
  have hq : z.P1.con = Pb.pe1 x s.q := congrArg Pb.Ct.q hct
  have hA : z.l0.map Tcp.T.con = s.A.map (Pb.sg0 x) := congrArg Pb.Ct.A hct
  have hB : z.l1.map Tcp.T.con = s.B.map (Pb.sg1 x) := congrArg Pb.Ct.B hct
  have lA : z.n0 = s.A.length := by rw [← segs_len h.r0]; simpa using congrArg List.length hA
  have lB : z.n1 = s.B.length := by rw [← segs_len h.r1]; simpa using congrArg List.length hB
  obtain ⟨wA, wB⟩ := Pb.len_W s
  have hr0 := Pb.right0 hx hs.inv
  have hr1 := Pb.right1 hx hs.inv
  have hm : (1 : Int) ≤ (x.m : Int) ∧ (x.m : Int) ≤ 65536 := by have := hx.ma; have := hx.mb; omega
  have hkk : (0 : Int) ≤ (kd : Int) ∧ (kd : Int) ≤ 255 := by omega
  have hway : Pb.wayS false s = s.A := rfl
  unfold Pb.doS
  rw [hway]
  by_cases h0 : kd % 5 = 0
  · rw [if_pos h0]
    refine (do_say0 w0 w g z h kd a x.m hkk (by omega) (by rw [hp]; exact hr0) hm (by omega)).mono ?_
    rintro e w' ⟨rfl, z', h', hc'⟩
    exact ⟨rfl, z', h', by rw [hc', hct, Pb.sayK_ct hx hs]⟩
  rw [if_neg h0]
  by_cases h1 : kd % 5 = 1
  · rw [if_pos h1]
    refine (do_again0 w0 w g z h kd a x.m hkk (by omega) (by rw [hp]; exact hr0)).mono ?_
    rintro e w' ⟨rfl, p, hpc, h'⟩
    refine ⟨rfl, _, h', ?_⟩
    rw [← Pb.againK_ct, ← hct]
    unfold Two.ct Pb.againK
    simp [hpc]
  rw [if_neg h1]
  by_cases hz : s.A.length = 0
  · rw [if_pos hz]
    refine (do_empty0 w0 w g z h kd a x.m hkk (beq_eq_false_iff_ne.2 (by omega)) (beq_eq_false_iff_ne.2 (by omega)) (by omega)).mono ?_
    rintro e w' ⟨rfl, h'⟩
    exact ⟨rfl, z, h', hct⟩
  rw [if_neg hz]
  have hi : a % s.A.length < s.A.length := Nat.mod_lt _ (by omega)
  have hil : a % s.A.length < z.l0.length := by rw [segs_len h.r0]; omega
  obtain ⟨t, ht⟩ : ∃ t, z.l0[a % s.A.length]? = some t := ⟨_, List.getElem?_eq_getElem hil⟩
  have hia : a % s.A.length = a % z.n0 := by rw [lA]
  by_cases h4 : kd % 5 = 4
  · rw [if_pos h4]
    refine (do_twice0 w0 w g z h kd a x.m hkk (by omega) a _ ha rfl hia (by omega) (by omega) t ht).mono ?_
    rintro e w' ⟨rfl, z', h', hc'⟩
    exact ⟨rfl, z', h', by rw [hc', hct, Pb.twiceK_ct]⟩
  rw [if_neg h4]
  by_cases h3 : kd % 5 = 3
  · rw [if_pos h3]
    refine (do_lose0 w0 w g z h kd a x.m hkk (by omega) a _ ha rfl hia (by omega) (by omega) t ht).mono ?_
    rintro e w' ⟨rfl, z', h', hc'⟩
    exact ⟨rfl, z', h', by rw [hc', hct, Pb.loseK_ct]⟩
  rw [if_neg h3]
  have htc : t.con = Pb.sg0 x s.A[a % s.A.length] := by
    have e1 : (z.l0.map Tcp.T.con)[a % s.A.length]? = some t.con := by rw [List.getElem?_map, ht]; rfl
    rw [hA, List.getElem?_map, List.getElem?_eq_getElem hi] at e1
    injection e1 with e1
    exact e1.symm
  have hok := hs.a _ (List.getElem_mem hi)
  refine (do_come0 w0 w g z h kd a x.m hkk (by omega) a _ ha rfl hia (by omega) (by omega) (by omega) t ht (by rw [hq]; exact Pb.in1 hx _) (by rw [hq, htc]; exact Pb.fits1 hx hs.inv hok) (by rw [hq, htc]; exact Pb.takes1 hx hs.inv hok)).mono ?_
  rintro e w' ⟨rfl, z', h', hc'⟩
  exact ⟨rfl, z', h', by rw [hc', hct, Pb.comeK_ct hx hs]⟩
theorem do_side1 (x : Pb.Cc) (hx : x.ok) (s : Pb.Sy) (hs : s.ok x.cf) (hW : Pb.W s ≤ 5000) (w0 w : World) (g : Nat) (z : Two) (h : TwoM w0 g z w) (hct : z.ct = Pb.ctOf x s) (kd a : Nat) (hk : kd ≤ 255) (ha : a ≤ 255) :
    Calls Try.prog 15 #[.pointer (some ⟨g, 0, none⟩), .agg #[.int .u8 kd, .bool true, .int .u8 a], .int .i64 x.m] w fun e w' => e = .returned (.tuple #[]) ∧ St w0 g x (Pb.doS x.cf kd true a s) w' := by
  have hp : z.P0.con = Pb.pe0 x s.p := congrArg Pb.Ct.p hct
  have hq : z.P1.con = Pb.pe1 x s.q := congrArg Pb.Ct.q hct
  have hA : z.l0.map Tcp.T.con = s.A.map (Pb.sg0 x) := congrArg Pb.Ct.A hct
  have hB : z.l1.map Tcp.T.con = s.B.map (Pb.sg1 x) := congrArg Pb.Ct.B hct
  have lA : z.n0 = s.A.length := by rw [← segs_len h.r0]; simpa using congrArg List.length hA
  have lB : z.n1 = s.B.length := by rw [← segs_len h.r1]; simpa using congrArg List.length hB
  obtain ⟨wA, wB⟩ := Pb.len_W s
  have hr0 := Pb.right0 hx hs.inv
  have hr1 := Pb.right1 hx hs.inv
  have hm : (1 : Int) ≤ (x.m : Int) ∧ (x.m : Int) ≤ 65536 := by have := hx.ma; have := hx.mb; omega
  have hkk : (0 : Int) ≤ (kd : Int) ∧ (kd : Int) ≤ 255 := by omega
  have hway : Pb.wayS true s = s.B := rfl
  unfold Pb.doS
  rw [hway]
  by_cases h0 : kd % 5 = 0
  · rw [if_pos h0]
    refine (do_say1 w0 w g z h kd a x.m hkk (by omega) (by rw [hq]; exact hr1) hm (by omega)).mono ?_
    rintro e w' ⟨rfl, z', h', hc'⟩
    exact ⟨rfl, z', h', by rw [hc', hct, Pb.sayK_ct hx hs]⟩
  rw [if_neg h0]
  by_cases h1 : kd % 5 = 1
  · rw [if_pos h1]
    refine (do_again1 w0 w g z h kd a x.m hkk (by omega) (by rw [hq]; exact hr1)).mono ?_
    rintro e w' ⟨rfl, p, hpc, h'⟩
    refine ⟨rfl, _, h', ?_⟩
    rw [← Pb.againK_ct, ← hct]
    unfold Two.ct Pb.againK
    simp [hpc]
  rw [if_neg h1]
  by_cases hz : s.B.length = 0
  · rw [if_pos hz]
    refine (do_empty1 w0 w g z h kd a x.m hkk (beq_eq_false_iff_ne.2 (by omega)) (beq_eq_false_iff_ne.2 (by omega)) (by omega)).mono ?_
    rintro e w' ⟨rfl, h'⟩
    exact ⟨rfl, z, h', hct⟩
  rw [if_neg hz]
  have hi : a % s.B.length < s.B.length := Nat.mod_lt _ (by omega)
  have hil : a % s.B.length < z.l1.length := by rw [segs_len h.r1]; omega
  obtain ⟨t, ht⟩ : ∃ t, z.l1[a % s.B.length]? = some t := ⟨_, List.getElem?_eq_getElem hil⟩
  have hia : a % s.B.length = a % z.n1 := by rw [lB]
  by_cases h4 : kd % 5 = 4
  · rw [if_pos h4]
    refine (do_twice1 w0 w g z h kd a x.m hkk (by omega) a _ ha rfl hia (by omega) (by omega) t ht).mono ?_
    rintro e w' ⟨rfl, z', h', hc'⟩
    exact ⟨rfl, z', h', by rw [hc', hct, Pb.twiceK_ct]⟩
  rw [if_neg h4]
  by_cases h3 : kd % 5 = 3
  · rw [if_pos h3]
    refine (do_lose1 w0 w g z h kd a x.m hkk (by omega) a _ ha rfl hia (by omega) (by omega) t ht).mono ?_
    rintro e w' ⟨rfl, z', h', hc'⟩
    exact ⟨rfl, z', h', by rw [hc', hct, Pb.loseK_ct]⟩
  rw [if_neg h3]
  have htc : t.con = Pb.sg1 x s.B[a % s.B.length] := by
    have e1 : (z.l1.map Tcp.T.con)[a % s.B.length]? = some t.con := by rw [List.getElem?_map, ht]; rfl
    rw [hB, List.getElem?_map, List.getElem?_eq_getElem hi] at e1
    injection e1 with e1
    exact e1.symm
  have hok := hs.b _ (List.getElem_mem hi)
  refine (do_come1 w0 w g z h kd a x.m hkk (by omega) a _ ha rfl hia (by omega) (by omega) (by omega) t ht (by rw [hp]; exact Pb.in0 hx _) (by rw [hp, htc]; exact Pb.fits0 hx hs.inv hok) (by rw [hp, htc]; exact Pb.takes0 hx hs.inv hok)).mono ?_
  rintro e w' ⟨rfl, z', h', hc'⟩
  exact ⟨rfl, z', h', by rw [hc', hct, Pb.comeK_ct hx hs]⟩
theorem do_spec (x : Pb.Cc) (hx : x.ok) (s : Pb.Sy) (hs : s.ok x.cf) (hW : Pb.W s ≤ 5000) (w0 w : World) (g : Nat) (h : St w0 g x s w) (kd a : Nat) (hk : kd ≤ 255) (ha : a ≤ 255) (k : Bool) :
    Calls Try.prog 15 #[.pointer (some ⟨g, 0, none⟩), .agg #[.int .u8 kd, .bool k, .int .u8 a], .int .i64 x.m] w fun e w' => e = .returned (.tuple #[]) ∧ St w0 g x (Pb.doS x.cf kd k a s) w' := by
  obtain ⟨z, h1, h2⟩ := h
  cases k
  · exact do_side0 x hx s hs hW w0 w g z h1 h2 kd a hk ha
  · exact do_side1 x hx s hs hW w0 w g z h1 h2 kd a hk ha
end Go.Proofs.Ytihhcalgjkkalaa
