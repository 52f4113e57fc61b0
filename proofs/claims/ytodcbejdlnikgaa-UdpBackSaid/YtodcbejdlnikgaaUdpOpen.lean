/- An api.UDP that came in. -/
import Derived.Test.YtodcbejdlnikgaaOpenS
import Derived.Test.YtodcbejdlnikgaaChecked
namespace Go.Proofs.Ytodcbejdlnikgaa
open Go.ChangeShapes Go.WideShapes Go.ChangeAt Go.RowKit Go.Deep
set_option linter.unusedVariables false
theorem open_udp {H : Type} {enc : TypeId × Value → H} {w : World} {held : Bool} {r : Reach} {b0 : Nat} {v : Value} {d : DataW H} {p : List MemPlace}
    (hv : Value.okWide Try.prog w r b0 37 v) (h : DataW.Trod enc Try.prog w 0 (fun _ => true) held 37 v d p) :
    ∃ (sp dp : Int) (ns : Bool) (A : Option Addr) (n c : Nat) (l : List Int), v = .agg #[.int .i64 sp, .int .i64 dp, .bool ns, .slice A n c] ∧ (Lit.int .i64 sp).wf = true ∧ (Lit.int .i64 dp).wf = true ∧ Rd w 1 A n (bs l) ∧ isB l ∧ n ≤ c ∧ c ≤ 9223372036854775807 := by
  obtain ⟨cs, n, rfl, hl, hf⟩ := open_struct Try.underlying37 (by kernel_rfl) (by kernel_rfl) hv h
  match cs, hl with
  | [c0, c1, c2, c3], _ =>
    obtain ⟨u0, y0, e0, t0⟩ := hf 0 _ rfl
    obtain ⟨u1, y1, e1, t1⟩ := hf 1 _ rfl
    obtain ⟨u2, y2, e2, t2⟩ := hf 2 _ rfl
    obtain ⟨u3, y3, e3, t3⟩ := hf 3 _ rfl
    simp only [List.getElem?_cons_zero, List.getElem?_cons_succ, Option.some.injEq] at e0 e1 e2 e3
    subst e0 e1 e2 e3
    obtain ⟨sp, hs, _, ws⟩ := DataW.trod_int Try.underlying3 t0
    obtain ⟨dp, hd, _, wd⟩ := DataW.trod_int Try.underlying3 t1
    obtain ⟨ns, hn, _⟩ := DataW.trod_bool Try.underlying4 t2
    obtain ⟨A, m, c, l, hb, hR, hB, hmc, hc⟩ := bytes_of_trod Try.underlying22 Try.underlying5 (by kernel_rfl) t3
    simp only [List.cons.injEq, and_true] at hs hd hn
    subst hs hd hn hb
    exact ⟨sp, dp, ns, A, m, c, l, rfl, ws, wd, hR, hB, hmc, hc⟩
end Go.Proofs.Ytodcbejdlnikgaa
