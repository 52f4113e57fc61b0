/- []casematelaw31.Do that came in. -/
import Derived.Test.YtihhcalgjkkalaaOpenS
import Derived.Test.YtihhcalgjkkalaaPbLaw
namespace Go.Proofs.Ytihhcalgjkkalaa
open Go.ChangeShapes Go.WideShapes Go.ChangeAt Go.RowKit Go.Deep
set_option maxRecDepth 8000
set_option linter.unusedVariables false
section
variable {H : Type} {enc : TypeId × Value → H} {w : World} {held : Bool}
structure DoV where
  kd : Int
  sd : Bool
  pl : Int
instance : Inhabited DoV := ⟨⟨0, false, 0⟩⟩
def DoV.cells (a : DoV) : List Value := [.int .u8 a.kd, .bool a.sd, .int .u8 a.pl]
def DoV.ok (a : DoV) : Prop := (0 ≤ a.kd ∧ a.kd ≤ 255) ∧ (0 ≤ a.pl ∧ a.pl ≤ 255)
theorem do_cells {n : Nat} {cs : List Value} {y : DataW H × List MemPlace} (hl : cs.length = 3) (h : DataW.trod enc Try.prog w 0 (fun _ => true) held n 51 cs = some y) : ∃ a : DoV, cs = a.cells ∧ a.ok := by
  obtain ⟨m, hf⟩ := struct_cells Try.underlying51 (by kernel_rfl) (by simpa using hl) h
  match cs, hl with
  | [c0, c1, c2], _ =>
    obtain ⟨u0, y0, e0, t0⟩ := hf 0 _ rfl
    obtain ⟨u1, y1, e1, t1⟩ := hf 1 _ rfl
    obtain ⟨u2, y2, e2, t2⟩ := hf 2 _ rfl
    simp only [List.getElem?_cons_zero, List.getElem?_cons_succ, Option.some.injEq] at e0 e1 e2
    subst e0 e1 e2
    obtain ⟨x0, k0, _, w0⟩ := DataW.trod_int Try.underlying5 t0
    obtain ⟨x1, k1, _⟩ := DataW.trod_bool Try.underlying4 t1
    obtain ⟨x2, k2, _, w2⟩ := DataW.trod_int Try.underlying5 t2
    simp only [List.cons.injEq, and_true] at k0 k1 k2
    subst k0 k1 k2
    exact ⟨⟨x0, x1, x2⟩, rfl, bounds_u8 w0, bounds_u8 w2⟩
theorem open_dos {r : Reach} {b0 : Nat} {v : Value} {d : DataW H} {p : List MemPlace} (hv : Value.okWide Try.prog w r b0 42 v) (h : DataW.Trod enc Try.prog w 0 (fun _ => true) held 42 v d p) :
    ∃ A n c, v = .slice A n c ∧ Acts w A n ∧ n ≤ 9223372036854775807 := by
  obtain ⟨a, len, cap, rfl⟩ := okWide_slice Try.underlying42 hv
  obtain ⟨fuel, hf⟩ := h
  obtain ⟨A, n, c, l, hvs, hl, hok, hc, hnc, hcc⟩ := open_rows Try.underlying42 3 (by kernel_rfl) (by decide) DoV.cells (fun a => DoV.ok a) (fun n cs y hl h => do_cells hl h) hf
  refine ⟨A, n, c, hvs, fun j hj => ?_, by omega⟩
  obtain ⟨b, off, e, hb, h1⟩ := hc j hj
  have hjl : j < l.length := by omega
  obtain ⟨⟨k1, k2⟩, k3, k4⟩ := hok l[j]! (by rw [getElem!_pos l j hjl]; exact List.getElem_mem hjl)
  obtain ⟨kd, hkd⟩ := Int.eq_ofNat_of_zero_le k1
  obtain ⟨pl, hpl⟩ := Int.eq_ofNat_of_zero_le k3
  refine ⟨b, off, kd, pl, l[j]!.sd, e, hb, fun i u hi => h1 i u ?_, by omega, by omega⟩
  rw [← hi]
  unfold DoV.cells
  rw [hkd, hpl]
end
theorem PeerBegins_walk (A : Option Addr) (n c : Nat) (la : List Int) (B : Option Addr) (m d : Nat) (lb : List Int) (x y win ot mss : Int) (L : Option Addr) (nl cl : Nat) (w : World) (hA : Rd w 1 A n (bs la)) (iA : isB la) (nc0 : n ≤ c) (cc0 : c ≤ 9223372036854775807) (hB : Rd w 1 B m (bs lb)) (iB : isB lb) (nc1 : m ≤ d) (cc1 : d ≤ 9223372036854775807)
    (wx : (Lit.int .u32 x).wf = true) (wy : (Lit.int .u32 y).wf = true) (w1 : (Lit.int .u8 win).wf = true) (w2 : (Lit.int .u8 ot).wf = true) (w3 : (Lit.int .u8 mss).wf = true) (hL : Acts w L nl) (hnl : nl ≤ 9223372036854775807) :
    Calls Try.prog 5 #[.slice A n c, .slice B m d, .int .u32 x, .int .u32 y, .int .u8 win, .int .u8 ot, .int .u8 mss, .slice L nl cl] w fun e w' => e = .returned (.bool true) ∧ Below w.heap.size w w' := by
  by_cases h : 300 < n ∨ 300 < m
  · exact peerbegins_long A n c B m d x y win ot mss L nl cl w h
  · obtain ⟨a1, a2⟩ := bounds_u8 w1
    obtain ⟨b1, b2⟩ := bounds_u8 w2
    obtain ⟨c1, c2⟩ := bounds_u8 w3
    obtain ⟨win, rfl⟩ := Int.eq_ofNat_of_zero_le a1
    obtain ⟨ot, rfl⟩ := Int.eq_ofNat_of_zero_le b1
    obtain ⟨mss, rfl⟩ := Int.eq_ofNat_of_zero_le c1
    exact peerbegins_walk A n c la B m d lb x y win ot mss L nl cl w hA iA hB iB (by omega) (by omega) (bounds_u32 wx).1 (bounds_u32 wx).2 (bounds_u32 wy).1 (bounds_u32 wy).2 (by omega) (by omega) (by omega) hL hnl
end Go.Proofs.Ytihhcalgjkkalaa
