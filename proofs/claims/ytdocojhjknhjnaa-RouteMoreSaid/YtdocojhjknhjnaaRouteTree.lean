/- The tree of route.Find in memory: nodes by their ways, and what a store or a new node makes of it. No program in sight. -/
import Derived.Test.YtdocojhjknhjnaaRouteRightP
import Derived.Test.YtdocojhjknhjnaaRulesRef
import Derived.Lib.SmallJoins
namespace Go.Proofs.Ytdocojhjknhjnaa
open Go.RowKit
set_option linter.unusedVariables false
namespace Route
def ptrO : Option Nat → Option Addr
  | none => none
  | some g => some ⟨g, 0, none⟩
def nodeCells (r : Int) (a b : Option Nat) : Array Value := #[.int .i64 r, .pointer (ptrO a), .pointer (ptrO b)]
structure Tree (w : World) (base : Nat) (T : TypeId) (f : Nat → Int → Option Nat) (rt : Nat → Int → Int) : Prop where
  node : ∀ d x g, f d x = some g → base ≤ g ∧ w.heap[g]? = some (.cells (nodeCells (rt d x) (f (d + 1) (2 * x)) (f (d + 1) (2 * x + 1))) T (0, 0))
  inj : ∀ d x d' x' g, f d x = some g → f d' x' = some g → d = d' ∧ x = x'
  closed : ∀ d x g, f (d + 1) x = some g → ∃ g', f d (x / 2) = some g'
  bare : ∀ d x, f d x = none → rt d x = -1
section
variable {w : World} {base : Nat} {T : TypeId} {f : Nat → Int → Option Nat} {rt : Nat → Int → Int}
theorem Tree.lt (h : Tree w base T f rt) {d : Nat} {x : Int} {g : Nat} (hg : f d x = some g) : g < w.heap.size := (Array.getElem?_eq_some_iff.1 (h.node d x g hg).2).1
theorem Tree.below {w' : World} (h : Tree w base T f rt) (hb : Below w.heap.size w w') : Tree w' base T f rt :=
  ⟨fun d x g hg => ⟨(h.node d x g hg).1, (hb.block g (h.lt hg)).trans (h.node d x g hg).2⟩, h.inj, h.closed, h.bare⟩
theorem Tree.cells (h : Tree w base T f rt) {d : Nat} {x : Int} {g : Nat} (hg : f d x = some g) :
    w.cell? ⟨g, 0, none⟩ = some (.int .i64 (rt d x)) ∧ w.cell? ⟨g, 1, none⟩ = some (.pointer (ptrO (f (d + 1) (2 * x)))) ∧ w.cell? ⟨g, 2, none⟩ = some (.pointer (ptrO (f (d + 1) (2 * x + 1)))) := by
  have hn := (h.node d x g hg).2
  exact ⟨cell_of_row _ _ 0 _ T (0, 0) hn, cell_of_row _ _ 1 _ T (0, 0) hn, cell_of_row _ _ 2 _ T (0, 0) hn⟩
/-- the node at the end of a way gets a route -/
theorem Tree.set (h : Tree w base T f rt) {d0 : Nat} {x0 : Int} {g : Nat} (hg : f d0 x0 = some g) (num : Int) :
    Tree (w.setCell ⟨g, 0, none⟩ (.int .i64 num)) base T f (fun d x => if d = d0 ∧ x = x0 then num else rt d x) := by
  refine ⟨fun d x g' hg' => ⟨(h.node d x g' hg').1, ?_⟩, h.inj, h.closed, fun d x hn => ?_⟩
  · by_cases e : g' = g
    · subst e
      obtain ⟨rfl, rfl⟩ := h.inj _ _ _ _ _ hg' hg
      rw [Go.Joins.block_setCell (h.node _ _ _ hg').2]
      simp [nodeCells]
    · rw [Below.heap_setCell _ _ _ _ e, (h.node d x g' hg').2]
      have : ¬ (d = d0 ∧ x = x0) := by
        rintro ⟨rfl, rfl⟩
        rw [hg] at hg'
        exact e (Option.some.inj hg').symm
      rw [if_neg this]
  · have : ¬ (d = d0 ∧ x = x0) := by
      rintro ⟨rfl, rfl⟩
      rw [hg] at hn
      cases hn
    rw [if_neg this]
    exact h.bare d x hn
def upd (f : Nat → Int → Option Nat) (d0 : Nat) (y : Int) (g : Nat) : Nat → Int → Option Nat := fun d x => if d = d0 ∧ x = y then some g else f d x
/-- a new node below one that is there -/
theorem Tree.grow (h : Tree w base T f rt) {d0 : Nat} {x0 : Int} {g : Nat} (hg : f d0 x0 = some g) (b : Nat) (hb : b = 0 ∨ b = 1) (hno : f (d0 + 1) (2 * x0 + b) = none) (hbase : base ≤ w.heap.size) :
    Tree ((w.setCell ⟨g, 1 + b, none⟩ (.pointer (some ⟨w.heap.size, 0, none⟩))).alloc (.cells #[.int .i64 (-1), .pointer none, .pointer none] T)) base T (upd f (d0 + 1) (2 * x0 + b) w.heap.size) rt := by
  have hsz : (w.setCell ⟨g, 1 + b, none⟩ (.pointer (some ⟨w.heap.size, 0, none⟩))).heap.size = w.heap.size := by simp
  have hout : ∀ d x, ¬ (d = d0 + 1 ∧ x = 2 * x0 + b) → upd f (d0 + 1) (2 * x0 + b) w.heap.size d x = f d x := fun d x hn => by unfold upd; rw [if_neg hn]
  have hin : upd f (d0 + 1) (2 * x0 + b) w.heap.size (d0 + 1) (2 * x0 + b) = some w.heap.size := by unfold upd; rw [if_pos ⟨rfl, rfl⟩]
  have hdown : ∀ y, y / 2 = 2 * x0 + b → f (d0 + 1 + 1) y = none := by
    intro y hy
    cases hf : f (d0 + 1 + 1) y with
    | none => rfl
    | some g' =>
      obtain ⟨g'', h2⟩ := h.closed _ _ _ hf
      rw [hy, hno] at h2
      cases h2
  refine ⟨fun d x g' hg' => ?_, fun d x d' x' g' h1 h2 => ?_, fun d x g' hg' => ?_, fun d x hn => ?_⟩
  · by_cases e : d = d0 + 1 ∧ x = 2 * x0 + b
    · obtain ⟨rfl, rfl⟩ := e
      rw [hin] at hg'
      obtain rfl := Option.some.inj hg'
      refine ⟨hbase, ?_⟩
      rw [hout _ _ (by omega), hout _ _ (by omega), hdown _ (by omega), hdown _ (by omega), h.bare _ _ hno]
      have := heap_alloc_new (w.setCell ⟨g, 1 + b, none⟩ (.pointer (some ⟨w.heap.size, 0, none⟩))) (.cells #[.int .i64 (-1), .pointer none, .pointer none] T)
      rw [hsz] at this
      exact this
    · rw [hout _ _ e] at hg'
      have hlt := h.lt hg'
      refine ⟨(h.node d x g' hg').1, ?_⟩
      rw [Below.heap_alloc _ _ _ (by rw [hsz]; exact hlt)]
      by_cases e2 : g' = g
      · subst e2
        obtain ⟨rfl, rfl⟩ := h.inj _ _ _ _ _ hg' hg
        rw [Go.Joins.block_setCell (h.node _ _ _ hg').2]
        rcases hb with rfl | rfl
        · rw [show upd f (d + 1) (2 * x + (0 : Nat)) w.heap.size (d + 1) (2 * x) = some w.heap.size by unfold upd; rw [if_pos ⟨rfl, by omega⟩], hout _ _ (by omega)]
          simp [nodeCells, ptrO]
        · rw [show upd f (d + 1) (2 * x + (1 : Nat)) w.heap.size (d + 1) (2 * x + 1) = some w.heap.size by unfold upd; rw [if_pos ⟨rfl, by omega⟩], hout _ _ (by omega)]
          simp [nodeCells, ptrO]
      · rw [Below.heap_setCell _ _ _ _ e2, (h.node d x g' hg').2]
        have hne : ¬ (d = d0 ∧ x = x0) := by
          rintro ⟨rfl, rfl⟩
          rw [hg] at hg'
          exact e2 (Option.some.inj hg').symm
        rw [hout _ _ (by rcases hb with rfl | rfl <;> omega), hout _ _ (by rcases hb with rfl | rfl <;> omega)]
  · by_cases e1 : d = d0 + 1 ∧ x = 2 * x0 + b <;> by_cases e2 : d' = d0 + 1 ∧ x' = 2 * x0 + b
    · omega
    · obtain ⟨rfl, rfl⟩ := e1
      rw [hin] at h1
      rw [hout _ _ e2] at h2
      have := h.lt h2
      have := Option.some.inj h1
      omega
    · obtain ⟨rfl, rfl⟩ := e2
      rw [hin] at h2
      rw [hout _ _ e1] at h1
      have := h.lt h1
      have := Option.some.inj h2
      omega
    · rw [hout _ _ e1] at h1
      rw [hout _ _ e2] at h2
      exact h.inj _ _ _ _ _ h1 h2
  · by_cases e : d + 1 = d0 + 1 ∧ x = 2 * x0 + b
    · obtain ⟨e, rfl⟩ := e
      obtain rfl : d = d0 := by omega
      refine ⟨g, ?_⟩
      rw [hout _ _ (by omega), show (2 * x0 + (b : Int)) / 2 = x0 by rcases hb with rfl | rfl <;> omega]
      exact hg
    · rw [hout _ _ e] at hg'
      obtain ⟨g2, h2⟩ := h.closed _ _ _ hg'
      by_cases e3 : d = d0 + 1 ∧ x / 2 = 2 * x0 + b
      · obtain ⟨rfl, h3⟩ := e3
        exact ⟨_, by rw [h3]; exact hin⟩
      · exact ⟨g2, by rw [hout _ _ e3]; exact h2⟩
  · by_cases e : d = d0 + 1 ∧ x = 2 * x0 + b
    · obtain ⟨rfl, rfl⟩ := e
      rw [hin] at hn
      cases hn
    · rw [hout _ _ e] at hn
      exact h.bare _ _ hn
end
/-- what the search finds that has gone d steps down -/
def scanF (rt : Nat → Int → Int) (a : Int) : Nat → Int
  | 0 => -1
  | d + 1 => if 0 ≤ rt d (a / 2 ^ (32 - d)) then rt d (a / 2 ^ (32 - d)) else scanF rt a d
theorem scanF_scan (l : List R) (a : Int) (n : Nat) : ∀ d, scanF (fun d x => ends l d x n) a d = scan l a n d := by
  intro d
  induction d with
  | zero => rfl
  | succ d ih => simp only [scanF, scan, ih]
theorem half_way (a : Int) (d : Nat) (hd : d < 32) : a / 2 ^ (32 - (d + 1)) / 2 = a / 2 ^ (32 - d) := by
  rw [Net.half, show 32 - (d + 1) + 1 = 32 - d by omega]
theorem way_next (a : Int) (d : Nat) (hd : d < 32) : a / 2 ^ (31 - d) = 2 * (a / 2 ^ (32 - d)) + (a / 2 ^ (31 - d)) % 2 := by
  have := half_way a d hd
  rw [show 32 - (d + 1) = 31 - d by omega] at this
  omega
/-- where no node is there, nothing lies below -/
theorem Tree.scan_rest {w : World} {base : Nat} {T : TypeId} {f : Nat → Int → Option Nat} {rt : Nat → Int → Int} (h : Tree w base T f rt) (a : Int) {d : Nat} (hd : d ≤ 32) (hno : f d (a / 2 ^ (32 - d)) = none) : ∀ k, d + k ≤ 33 → scanF rt a (d + k) = scanF rt a d := by
  have none_at : ∀ k, d + k ≤ 32 → f (d + k) (a / 2 ^ (32 - (d + k))) = none := by
    intro k
    induction k with
    | zero => intro _; exact hno
    | succ k ih =>
      intro hk
      cases hf : f (d + (k + 1)) (a / 2 ^ (32 - (d + (k + 1)))) with
      | none => rfl
      | some g =>
        obtain ⟨g', h2⟩ := h.closed (d + k) _ _ hf
        rw [show d + (k + 1) = d + k + 1 by omega, half_way a (d + k) (by omega), ih (by omega)] at h2
        cases h2
  intro k
  induction k with
  | zero => intro _; rfl
  | succ k ih =>
    intro hk
    rw [← Nat.add_assoc]
    simp only [scanF]
    rw [h.bare _ _ (none_at k (by omega)), if_neg (by omega)]
    exact ih (by omega)
end Route
end Go.Proofs.Ytdocojhjknhjnaa
