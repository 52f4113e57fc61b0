/- What RouteMore leans on: the ways do not hang on the routes' order; rows of routes in memory. -/
import Derived.Test.YtdocojhjknhjnaaRouteRefR
import Derived.Test.YtdocojhjknhjnaaRulesBehindP
namespace Go.Proofs.Ytdocojhjknhjnaa
open Go.RowKit
set_option linter.unusedVariables false
namespace Route
def apart (x y : R) : Prop := ¬ (x.net = y.net ∧ x.bits = y.bits)
theorem same_iff {r x : R} : sameB r x = false ↔ apart x r := by
  unfold sameB apart
  rw [Bool.and_eq_false_iff, beq_eq_false_iff_ne, beq_eq_false_iff_ne]
  constructor
  · rintro (h | h) ⟨h1, h2⟩
    · exact h h1
    · exact h h2
  · intro h
    by_cases h1 : x.net = r.net
    · exact .inr fun h2 => h ⟨h1, h2⟩
    · exact .inl h1
theorem right_iff {l : List R} : rightB l = true ↔ l.length ≤ 64 ∧ (∀ r ∈ l, mayB r = true) ∧ l.Pairwise apart := by
  rw [List.pairwise_iff_getElem]
  constructor
  · intro h
    have h64 : l.length ≤ 64 := by unfold rightB at h; rw [Bool.and_eq_true, decide_eq_true_eq] at h; exact h.1
    refine ⟨h64, fun r hr => ?_, fun i j hi hj hij => ?_⟩
    · obtain ⟨i, hi, rfl⟩ := List.mem_iff_getElem.1 hr
      have := (right_step h hi).1
      rwa [getElem!_pos l i hi] at this
    · have := (right_step h hj).2 i hij
      rw [getElem!_pos l i hi, getElem!_pos l j hj] at this
      exact same_iff.1 this
  · rintro ⟨h1, h2, h3⟩
    refine right_yes h1 fun j hj => step_true hj ?_ fun i hi => ?_
    · rw [getElem!_pos l j hj]; exact h2 _ (List.getElem_mem _)
    · rw [getElem!_pos l i (by omega), getElem!_pos l j hj]
      exact same_iff.2 (h3 i j (by omega) hj hi)
theorem right_perm {l l' : List R} (h : l.Perm l') (hr : rightB l = true) : rightB l' = true := by
  rw [right_iff] at hr ⊢
  refine ⟨by rw [← h.length_eq]; exact hr.1, fun r hm => hr.2.1 r (h.mem_iff.2 hm), ?_⟩
  exact (h.pairwise_iff (fun {x y} hxy => fun hc => hxy ⟨hc.1.symm, hc.2.symm⟩)).1 hr.2.2
/-- what Find answers, by the routes as a set -/
theorem find_char {l : List R} (h : rightB l = true) (a : Int) :
    (findOk l a = false ∧ findV l a = zero ∧ ∀ x ∈ l, Net.inB a x.net x.bits = false) ∨
    (findOk l a = true ∧ findV l a ∈ l ∧ Net.inB a (findV l a).net (findV l a).bits = true ∧ ∀ x ∈ l, Net.inB a x.net x.bits = true → x.bits ≤ (findV l a).bits) := by
  have hok : findOk l a = decide (0 ≤ best l a l.length) := by unfold findOk; rw [h, Bool.true_and]
  rcases best_spec l a l.length with ⟨h1, h2⟩ | ⟨i, h1, h2, h3, h4, _⟩
  · left
    have ho : findOk l a = false := by rw [hok, h1]; rfl
    refine ⟨ho, by unfold findV; rw [ho]; rfl, fun x hx => ?_⟩
    obtain ⟨j, hj, rfl⟩ := List.mem_iff_getElem.1 hx
    have := h2 j hj
    rwa [getElem!_pos l j hj] at this
  · right
    have ho : findOk l a = true := by rw [hok, h1]; simp
    have hv : findV l a = l[i]! := by unfold findV; rw [ho, h1]; simp
    rw [hv]
    refine ⟨ho, by rw [getElem!_pos l i h2]; exact List.getElem_mem _, h3, fun x hx hin => ?_⟩
    obtain ⟨j, hj, rfl⟩ := List.mem_iff_getElem.1 hx
    have := h4 j hj (by rw [getElem!_pos l j hj]; exact hin)
    rwa [getElem!_pos l j hj] at this
theorem mem_one {l : List R} (h : rightB l = true) {a : Int} {x y : R} (hx : x ∈ l) (hy : y ∈ l) (h1 : Net.inB a x.net x.bits = true) (h2 : Net.inB a y.net y.bits = true) (hb : x.bits = y.bits) : x = y := by
  obtain ⟨i, hi, rfl⟩ := List.mem_iff_getElem.1 hx
  obtain ⟨j, hj, rfl⟩ := List.mem_iff_getElem.1 hy
  have e1 := getElem!_pos l i hi
  have e2 := getElem!_pos l j hj
  have := right_one h hi hj (by rw [e1]; exact h1) (by rw [e2]; exact h2) (by rw [e1, e2]; exact hb)
  subst this
  rfl
theorem find_perm {l l' : List R} (h : l.Perm l') (hr : rightB l = true) (a : Int) : findOk l' a = findOk l a ∧ findV l' a = findV l a := by
  have hr' := right_perm h hr
  rcases find_char hr a with ⟨a1, a2, a3⟩ | ⟨a1, a2, a3, a4⟩ <;> rcases find_char hr' a with ⟨b1, b2, b3⟩ | ⟨b1, b2, b3, b4⟩
  · exact ⟨by rw [a1, b1], by rw [a2, b2]⟩
  · have := a3 _ (h.mem_iff.2 b2)
    rw [b3] at this; cases this
  · have := b3 _ (h.mem_iff.1 a2)
    rw [a3] at this; cases this
  · refine ⟨by rw [a1, b1], ?_⟩
    have c1 := a4 _ (h.mem_iff.2 b2) b3
    have c2 := b4 _ (h.mem_iff.1 a2) a3
    exact mem_one hr (h.mem_iff.2 b2) a2 b3 a3 (by omega)
/-- one more route behind -/
theorem find_more {l : List R} {x : R} (hr : rightB (l ++ [x]) = true) (a : Int) :
    (findV (l ++ [x]) a = x ∧ Net.inB a x.net x.bits = true) ∨ (findV (l ++ [x]) a = findV l a ∧ findOk (l ++ [x]) a = findOk l a) := by
  have hl : rightB l = true := by
    rw [right_iff] at hr ⊢
    exact ⟨by have := hr.1; simp at this; omega, fun r hm => hr.2.1 r (List.mem_append_left _ hm), (List.pairwise_append.1 hr.2.2).1⟩
  rcases find_char hr a with ⟨b1, b2, b3⟩ | ⟨b1, b2, b3, b4⟩
  · right
    rcases find_char hl a with ⟨a1, a2, a3⟩ | ⟨a1, a2, a3, a4⟩
    · exact ⟨by rw [a2, b2], by rw [a1, b1]⟩
    · have := b3 _ (List.mem_append_left _ a2)
      rw [a3] at this; cases this
  · rcases List.mem_append.1 b2 with hm | hm
    · right
      rcases find_char hl a with ⟨a1, a2, a3⟩ | ⟨a1, a2, a3, a4⟩
      · have := a3 _ hm
        rw [b3] at this; cases this
      · have c1 := a4 _ hm b3
        have c2 := b4 _ (List.mem_append_left _ a2) a3
        exact ⟨mem_one hl hm a2 b3 a3 (by omega), by rw [a1, b1]⟩
    · left
      have e := List.mem_singleton.1 hm
      rw [e] at b3 ⊢
      exact ⟨rfl, b3⟩
/-- a route put in at a place -/
theorem insert_perm {l t : List R} {k p : Nat} (hk : k < l.length) (h : t.Perm (l.take k)) : (t.take p ++ [l[k]!] ++ t.drop p).Perm (l.take (k + 1)) := by
  have e : l.take (k + 1) = l.take k ++ [l[k]!] := by
    rw [getElem!_pos l k hk, List.take_succ_eq_append_getElem hk]
  rw [e]
  have h1 : (t.take p ++ [l[k]!] ++ t.drop p).Perm (t ++ [l[k]!]) := by
    rw [List.append_assoc]
    refine (List.Perm.append_left _ List.perm_append_comm).trans ?_
    rw [← List.append_assoc, List.take_append_drop]
  exact h1.trans (h.append_right _)
end Route
theorem tcells_app (a b : List Route.R) : tcells (a ++ b) = tcells a ++ tcells b := by simp [tcells]
theorem tcells_one (r : Route.R) : tcells [r] = r.cells := by simp [tcells]
theorem one_routes (l : List Route.R) : ∀ u ∈ tcells l, u.oneCell' = true := by
  intro u hu
  simp only [tcells, List.mem_flatMap] at hu
  obtain ⟨r, _, hr⟩ := hu
  simp only [Route.R.cells, List.mem_cons, List.not_mem_nil, or_false] at hr
  rcases hr with rfl | rfl | rfl | rfl <;> rfl
theorem info_route : (Try.prog.info? 40).map (fun i => (i.zero, i.size, i.bytes)) = some (some (.agg #[.int .u32 0, .int .i64 0, .int .i64 0, .int .i64 0]), 4, 32) := by kernel_rfl
theorem RdRoutes.rd {w : World} {A : Option Addr} {n : Nat} {l : List Route.R} (h : RdRoutes w A n l) : Rd w 4 A n (tcells l) := by
  refine ⟨by rw [tcells_len, h.1], fun hn => ?_⟩
  obtain ⟨b, off, rfl, hb, _⟩ := h.2.2 0 hn
  refine ⟨b, off, rfl, hb, fun j u hu => ?_⟩
  have hj : j < n * 4 := by
    have := (List.getElem?_eq_some_iff.1 hu).1
    rw [tcells_len, h.1] at this; exact this
  have hk : j / 4 < n := by omega
  have hi : j % 4 < 4 := Nat.mod_lt _ (by decide)
  obtain ⟨b', off', e, hb', hc⟩ := h.2.2 (j / 4) hk
  injection e with e
  injection e with e1 e2
  subst e1 e2
  have hlen : (l[j / 4]!).cells.length = 4 := rfl
  have h1 := tcells_get l (j / 4) (j % 4) _ (by rw [h.1]; exact hk) (List.getElem?_eq_getElem (by rw [hlen]; exact hi))
  rw [show j / 4 * 4 + j % 4 = j by omega, hu] at h1
  have := hc (j % 4) _ (List.getElem?_eq_getElem (by rw [hlen]; exact hi))
  rw [← Option.some.inj h1, show off + j / 4 * 4 + j % 4 = off + j by omega] at this
  exact this
theorem RdRoutes.of_own {w : World} {base : Nat} {e : TypeId} {c : Nat} {A : Option Addr} {l : List Route.R} {n : Nat} (h : w.ownsRow base e 4 (.slice A n c) n (tcells l)) (hl : l.length = n) (hn : n ≤ 100) : RdRoutes w A n l := RdRoutes.of_rd (Rd.of_own h) hl (by omega)
/-- part of a row, from an element on -/
theorem RdRoutes.part {w : World} {b off n : Nat} {l : List Route.R} (h : RdRoutes w (some ⟨b, off, none⟩) n l) {p : Nat} (hp : p ≤ n) : RdRoutes w (some ⟨b, off + p * 4, none⟩) (n - p) (l.drop p) :=
  ⟨by have := h.1; simp; omega, by have := h.2.1; omega, fun j hj => by
    obtain ⟨b', off', e, h1⟩ := h.2.2 (p + j) (by omega)
    injection e with e
    injection e with e1 e2
    subst e1 e2
    have : (l.drop p)[j]! = l[p + j]! := by
      rw [getElem!_pos _ j (by have := h.1; simp; omega), getElem!_pos l (p + j) (by have := h.1; omega)]; simp
    exact ⟨_, _, rfl, by rw [this, show off + p * 4 + j * 4 = off + (p + j) * 4 by omega]; exact h1⟩⟩
theorem own_cap {w : World} {base : Nat} {e : TypeId} {s n c : Nat} {A : Option Addr} {xs : List Value} (h : w.ownsRow base e s (.slice A n c) n xs) : n ≤ c ∧ c ≤ maxLen := by
  rcases h.2 with ⟨hv, h0⟩ | ⟨g, cap, cur, hv, hb, hg, h1, h2, _⟩
  · injection hv with _ _ hc; subst h0; rw [hc]; exact ⟨Nat.le_refl _, by decide⟩
  · injection hv with _ _ hc; rw [hc]; exact ⟨h1, h2⟩
theorem rd_route (w : World) (r : Route.R) (e : TypeId) (g : Nat) (hg : g = w.heap.size) : Rd (w.alloc (.cells #[.int .u32 r.net, .int .i64 r.bits, .int .i64 r.zone, .int .i64 r.mtu] e)) 4 (some ⟨g, 0, none⟩) 1 r.cells := by
  subst hg
  refine ⟨rfl, fun _ => ⟨_, _, rfl, by simp, fun j u hu => ?_⟩⟩
  rw [box_cell]
  simpa [Route.R.cells] using hu
end Go.Proofs.Ytdocojhjknhjnaa
