/- Arguments opened: a struct of one-cell fields by value, whatever their number. No program in sight. -/
import Derived.Test.YtihhcalgjkkalaaOpen
import Derived.Lib.SmallJoins
import Derived.Deep.Fields
namespace Go.Proofs.Ytihhcalgjkkalaa
open Go.ChangeShapes Go.WideShapes Go.ChangeAt Go.RowKit Go.Deep
set_option linter.unusedVariables false
section
variable {H : Type} {enc : TypeId × Value → H} {P : Program} {w : World} {base : Nat} {spare : Nat → Bool} {held : Bool}
theorem open_struct {r : Reach} {b0 : Nat} {t : TypeId} {fs : Array Field} {v : Value} {d : DataW H} {p : List MemPlace} (hs : P.underlying t = some (.struct fs)) (hone : oneCellFields P fs = true) (hC : P.cellsOf t = fs.size)
    (hv : Value.okWide P w r b0 t v) (h : DataW.Trod enc P w base spare held t v d p) :
    ∃ (cs : List Value) (n : Nat), v = .agg cs.toArray ∧ cs.length = fs.size ∧ ∀ (j : Nat) (f : Field), fs[j]? = some f → ∃ u y, cs[j]? = some u ∧ DataW.trod enc P w base spare held n f.type [u] = some y := by
  obtain ⟨cs, rfl, hsz⟩ := okWide_struct hs hv
  obtain ⟨l⟩ := cs
  obtain ⟨fuel, hf⟩ := h
  obtain ⟨xs, n, _, hx, _, hlen, hg⟩ := DataW.trod_struct hs hf
  have hl : l.length = fs.size := by have := hsz.trans hC; simpa using this
  refine ⟨l, n, rfl, hl, fun j f hj => ?_⟩
  obtain ⟨ho, hk⟩ := hone_of hone j f hj
  have hjl : j < fs.size := (Array.getElem?_eq_some_iff.1 hj).1
  have h1 := hg j f hj
  simp only [Value.cells] at h1
  rw [ho, hk] at h1
  have hone' : (l.drop j).take 1 = [l[j]'(by omega)] := by rw [List.drop_eq_getElem_cons (by omega)]; rfl
  have hys : xs[j]? = some (xs[j]'(by omega)) := List.getElem?_eq_getElem (by omega)
  refine ⟨l[j]'(by omega), xs[j]'(by omega), List.getElem?_eq_getElem (by omega), ?_⟩
  rw [← hone']
  exact h1.trans hys
/-- the fields of a struct that is read as cells -/
theorem struct_cells {t : TypeId} {fs : Array Field} {fuel : Nat} {cs : List Value} {x : DataW H × List MemPlace} (hs : P.underlying t = some (.struct fs)) (hone : oneCellFields P fs = true) (hl : cs.length = fs.size)
    (hf : DataW.trod enc P w base spare held fuel t cs = some x) :
    ∃ n, ∀ (j : Nat) (f : Field), fs[j]? = some f → ∃ u y, cs[j]? = some u ∧ DataW.trod enc P w base spare held n f.type [u] = some y := by
  obtain ⟨xs, n, _, hx, _, hlen, hg⟩ := DataW.trod_struct hs hf
  refine ⟨n, fun j f hj => ?_⟩
  obtain ⟨ho, hk⟩ := hone_of hone j f hj
  have hjl : j < fs.size := (Array.getElem?_eq_some_iff.1 hj).1
  have h1 := hg j f hj
  rw [ho, hk] at h1
  have hone' : (cs.drop j).take 1 = [cs[j]'(by omega)] := by rw [List.drop_eq_getElem_cons (by omega)]; rfl
  have hys : xs[j]? = some (xs[j]'(by omega)) := List.getElem?_eq_getElem (by omega)
  refine ⟨cs[j]'(by omega), xs[j]'(by omega), List.getElem?_eq_getElem (by omega), ?_⟩
  rw [← hone']
  exact h1.trans hys
/-- a slice of structs (or of whatever takes more cells) that came in, element by element -/
theorem open_rows {α : Type} [Inhabited α] {t e : TypeId} {fuel : Nat} {v : Value} {x : DataW H × List MemPlace} (ht : P.underlying t = some (.slice e)) (k : Nat) (hk : P.cellsOf e = k) (hk0 : 0 < k) (V : α → List Value) (ok : α → Prop)
    (hopen : ∀ (n : Nat) (cs : List Value) (y : DataW H × List MemPlace), cs.length = k → DataW.trod enc P w 0 (fun _ => true) held n e cs = some y → ∃ r : α, cs = V r ∧ ok r)
    (h : DataW.trod enc P w 0 (fun _ => true) held fuel t [v] = some x) :
    ∃ A n c, ∃ l : List α, v = .slice A n c ∧ l.length = n ∧ (∀ r ∈ l, ok r) ∧ (∀ j, j < n → ∃ b off, A = some ⟨b, off, none⟩ ∧ b < w.heap.size ∧ ∀ (i : Nat) (u : Value), (V l[j]!)[i]? = some u → w.cell? ⟨b, off + j * k + i, none⟩ = some u) ∧ n ≤ c ∧ c ≤ 9223372036854775807 := by
  rcases open_slice ht h with ⟨hcs, _⟩ | ⟨a, len, cap, m, n, D, Pl, hcs, _, hl, hm, hmm, _, hx⟩
  · simp only [List.cons.injEq, and_true] at hcs
    exact ⟨none, 0, 0, [], hcs, rfl, by simp, fun j hj => absurd hj (Nat.not_lt_zero _), Nat.le_refl _, by omega⟩
  · simp only [List.cons.injEq, and_true] at hcs
    simp only [if_true] at hmm
    subst hmm
    rw [hk] at hx
    obtain ⟨f, hf⟩ := choose_lt (α := α) (p := fun i r => ok r ∧ (V r).length = k ∧ ∀ (q : Nat) (u : Value), (V r)[q]? = some u → w.cell? ((a.add (i * k)).add q) = some u) (fun i hi => by
      obtain ⟨cs', h1, h2⟩ := hx i hi
      obtain ⟨_, hlen, hcell⟩ := World.cells?_some h1
      obtain ⟨r, rfl, hr⟩ := hopen n cs' _ hlen h2
      exact ⟨r, hr, hlen, fun q u hu => (hcell q (by rw [← hlen]; exact (List.getElem?_eq_some_iff.1 hu).1)).trans hu⟩)
    refine ⟨some a, len, m, (List.range len).map f, hcs, by simp, fun r hr => ?_, fun j hj => ?_, hl, by unfold maxLen at hm; omega⟩
    · simp only [List.mem_map, List.mem_range] at hr
      obtain ⟨j, hj, rfl⟩ := hr
      exact (hf j (by omega)).1
    · obtain ⟨_, hl0, hc0⟩ := hf 0 (by omega)
      have h0 := hc0 0 _ (List.getElem?_eq_getElem (by omega))
      rw [show (a.add (0 * k)).add 0 = a by simp [Addr.add]] at h0
      obtain ⟨b, off, rfl, hb⟩ := spot_none h0
      refine ⟨b, off, rfl, hb, fun i u hu => ?_⟩
      have hj2 : ((List.range len).map f)[j]! = f j := by rw [getElem!_pos _ j (by simpa using hj)]; simp
      rw [hj2] at hu
      have := (hf j (by omega)).2.2 i u hu
      rw [add_off, add_off] at this
      exact this
end
end Go.Proofs.Ytihhcalgjkkalaa
