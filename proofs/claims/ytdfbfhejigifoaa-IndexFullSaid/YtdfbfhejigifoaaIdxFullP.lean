/- A table that is filled. No program in sight. -/
import Derived.Test.YtdfbfhejigifoaaIdxFacts
namespace Go.Proofs.Ytdfbfhejigifoaa
set_option linter.unusedVariables false
namespace Idx
def fkey (p f : Int) (i : Nat) : Key := ⟨p, i, f, 0, 0⟩
structure FSt (p f : Int) (N j : Nat) (T : List Cell) : Prop where
  good : Good T
  len : T.length = N
  has : ∀ k v, has T k v ↔ ∃ i : Nat, i < j ∧ k = fkey p f i ∧ v = i
  many : many T = j
theorem FSt.new {p f : Int} {N : Nat} (h : size N = true) : FSt p f N 0 (List.replicate N Cell.nil) :=
  ⟨good_new h, by simp, fun k v => ⟨fun hh => absurd hh has_new, fun ⟨i, hi, _⟩ => by omega⟩, many_rep N⟩
theorem fkey_inj {p f : Int} {i j : Nat} (h : fkey p f i = fkey p f j) : i = j := by
  injection h with _ h; omega
theorem FSt.no {p f : Int} {N j : Nat} {T : List Cell} (h : FSt p f N j T) {i : Nat} (hi : j ≤ i) (v : Int) : ¬ Idx.has T (fkey p f i) v := by
  intro hh
  obtain ⟨i', h1, h2, _⟩ := (h.has _ _).1 hh
  have := fkey_inj h2
  omega
theorem fkey_right {p f : Int} (h0 : 0 ≤ p ∧ p ≤ 255) (h1 : 0 ≤ f ∧ f ≤ 65535) (i : Nat) : right (fkey p f i) = true := by
  unfold right fkey
  simp [h0, h1]
theorem FSt.put {p f : Int} {N j : Nat} {T : List Cell} (h : FSt p f N j T) (h0 : 0 ≤ p ∧ p ≤ 255) (h1 : 0 ≤ f ∧ f ≤ 65535) (hj : j + 1 < N) : ∃ R, put T (fkey p f j) j = (R, 0) ∧ FSt p f N (j + 1) R := by
  obtain ⟨R, e, g, hs, hm, hl⟩ := put_ok (n := j) h.good (fkey_right h0 h1 j) (h.no (Nat.le_refl _)) (by rw [h.many, h.len]; exact hj)
  refine ⟨R, e, g, by rw [hl, h.len], fun k v => ?_, by rw [hm, h.many]⟩
  rw [hs, h.has]
  constructor
  · rintro (⟨i, hi, rfl, rfl⟩ | ⟨rfl, rfl⟩)
    · exact ⟨i, by omega, rfl, rfl⟩
    · exact ⟨j, by omega, rfl, rfl⟩
  · rintro ⟨i, hi, rfl, rfl⟩
    by_cases e : i = j
    · subst e; exact .inr ⟨rfl, rfl⟩
    · exact .inl ⟨i, by omega, rfl, rfl⟩
theorem FSt.full {p f : Int} {N j : Nat} {T : List Cell} (h : FSt p f N j T) (h0 : 0 ≤ p ∧ p ≤ 255) (h1 : 0 ≤ f ∧ f ≤ 65535) (hj : j + 1 = N) (x : Int) : Idx.put T (fkey p f j) x = (T, 8) :=
  put_full h.good (fkey_right h0 h1 j) (h.no (Nat.le_refl _)) (by rw [h.many, h.len]; exact hj)
theorem FSt.get_yes {p f : Int} {N j : Nat} {T : List Cell} (h : FSt p f N j T) {i : Nat} (hi : i < j) : get T (fkey p f i) = ((i : Int), true) := get_has h.good ((h.has _ _).2 ⟨i, hi, rfl, rfl⟩)
theorem FSt.get_no {p f : Int} {N j : Nat} {T : List Cell} (h : FSt p f N j T) {i : Nat} (hi : j ≤ i) : get T (fkey p f i) = (0, false) := get_none h.good (h.no hi)
end Idx
end Go.Proofs.Ytdfbfhejigifoaa
