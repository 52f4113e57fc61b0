/- What RulesBehind leans on. -/
import Derived.Test.YtdocojhjknhjnaaRulesAwake
import Derived.Deep.RegionHeld3
namespace Go.Proofs.Ytdocojhjknhjnaa
open Go.RowKit
set_option linter.unusedVariables false
theorem idx_app (p : Rules.Rule → Bool) (r : Rules.Rule) : ∀ (l : List Rules.Rule), idx p (l ++ [r]) = if 0 ≤ idx p l then idx p l else if p r = true then (l.length : Int) else -1 := by
  intro l
  induction l with
  | nil => cases h : p r <;> simp [idx, h]
  | cons x t ih =>
    have hg := (idx_ge p t).1
    by_cases h : p x = true
    · simp [idx, h]
    · have e1 : ∀ q, idx p (x :: q) = if idx p q < 0 then -1 else 1 + idx p q := fun q => by simp [idx, h]
      rw [List.cons_append, e1, e1, ih]
      by_cases h0 : 0 ≤ idx p t
      · rw [if_pos h0, if_neg (by omega), if_pos (by omega)]
      · have e2 : ¬ 0 ≤ (if idx p t < 0 then (-1 : Int) else 1 + idx p t) := by rw [if_pos (by omega)]; omega
        rw [if_neg h0, if_neg e2]
        have e3 : ((x :: t).length : Int) = t.length + 1 := by simp
        by_cases hr : p r = true
        · rw [if_pos hr, if_pos hr, if_neg (by omega), e3]; omega
        · rw [if_neg hr, if_neg hr, if_pos (by omega)]
theorem Rules.right_part {l : List Rules.Rule} {r : Rules.Rule} (h : Rules.rightB (l ++ [r]) = true) (h60 : l.length ≤ 60) : Rules.rightB l = true ∧ Rules.rightB (r :: l) = true := by
  unfold Rules.rightB at h ⊢
  simp only [Bool.and_eq_true, decide_eq_true_eq, List.all_append, List.all_cons, List.length_append, List.length_cons, List.length_nil, List.all_nil] at h ⊢
  exact ⟨⟨by omega, h.2.1⟩, ⟨by omega, h.2.2.1, h.2.1⟩⟩
theorem Rules.behind {l : List Rules.Rule} {r : Rules.Rule} {fr to : Int} {t : Rules.Tup} (h : Rules.rightB (l ++ [r]) = true) (h60 : l.length ≤ 60) :
    Rules.askAt (l ++ [r]) fr to t = (if 0 ≤ Rules.askAt l fr to t then Rules.askAt l fr to t else if Rules.fitsB r fr to t = true then (l.length : Int) else -1) ∧
    Rules.askAct (l ++ [r]) fr to t = (if 0 ≤ Rules.askAt l fr to t then Rules.askAct l fr to t else if Rules.fitsB r fr to t = true then r.act else 1) ∧
    Rules.askAt (r :: l) fr to t = (if Rules.fitsB r fr to t = true then 0 else if Rules.askAt l fr to t < 0 then -1 else 1 + Rules.askAt l fr to t) ∧
    Rules.askAct (r :: l) fr to t = (if Rules.fitsB r fr to t = true then r.act else Rules.askAct l fr to t) ∧ -1 ≤ Rules.askAt l fr to t ∧ Rules.askAt l fr to t < (l.length : Int) ∧ (Rules.askAt l fr to t < 0 → Rules.askAct l fr to t = 1) := by
  obtain ⟨h1, h2⟩ := Rules.right_part h h60
  unfold Rules.askAt Rules.askAct
  simp only [h, h1, h2, if_true]
  rw [idx_app]
  have hg := idx_ge (fun r => Rules.fitsB r fr to t) l
  have hc : idx (fun r => Rules.fitsB r fr to t) (r :: l) = if Rules.fitsB r fr to t = true then 0 else if idx (fun r => Rules.fitsB r fr to t) l < 0 then -1 else 1 + idx (fun r => Rules.fitsB r fr to t) l := rfl
  rw [hc]
  generalize idx (fun r => Rules.fitsB r fr to t) l = k at hg ⊢
  refine ⟨rfl, ?_, rfl, ?_, hg.1, hg.2, fun hk => by rw [if_pos hk]⟩
  · by_cases h0 : 0 ≤ k
    · rw [if_pos h0, if_neg (by omega), if_pos h0, if_neg (by omega)]
      rw [getElem!_pos _ _ (by simp; omega), getElem!_pos _ _ (by omega), List.getElem_append_left (by omega)]
    · rw [if_neg h0, if_neg h0]
      by_cases hf : Rules.fitsB r fr to t = true
      · rw [if_pos hf, if_pos hf, if_neg (by omega), getElem!_pos _ _ (by simp)]
        simp
      · rw [if_neg hf, if_neg hf, if_pos (by omega)]
  · by_cases hf : Rules.fitsB r fr to t = true
    · rw [if_pos hf, if_pos hf, if_neg (by omega)]; rfl
    · rw [if_neg hf, if_neg hf]
      by_cases h0 : k < 0
      · rw [if_pos h0, if_pos (by omega), if_pos h0]
      · rw [if_neg h0, if_neg (by omega), if_neg h0]
        rw [show (1 + k).toNat = k.toNat + 1 by omega]
        rfl
theorem info_rule : (Try.prog.info? 32).map (fun i => (i.zero, i.size, i.bytes)) = some (some (.agg #[.int .i64 0, .int .i64 0, .int .i64 0, .int .u32 0, .int .u32 0, .int .i64 0, .int .i64 0, .int .i64 0, .int .i64 0, .int .i64 0]), 10, 72) := by kernel_rfl
theorem one_rules (l : List Rules.Rule) : ∀ u ∈ rcells l, u.oneCell' = true := by
  intro u hu
  simp only [rcells, List.mem_flatMap] at hu
  obtain ⟨r, _, hr⟩ := hu
  simp only [Rules.Rule.cells, List.mem_cons, List.not_mem_nil, or_false] at hr
  rcases hr with rfl | rfl | rfl | rfl | rfl | rfl | rfl | rfl | rfl | rfl <;> rfl
/-- append in a region that draws, onto a row of the call's own. -/
theorem step_app {P : Program} (w : World) {ops : Array Oper} {o : Oper} {a : Act} {K : Act → World → Prop} {E : Prop} (hw : Region.wanted o (yielded ops a.tmps) = true) (s x : Operand) (t : TypeId)
    {Q : Exit → Act → World → Prop}
    (ho : o.op = .call { callee := .builtin .append, args := #[s, x], argTypes := #[t, t] })
    (a0 : World) (hbel : Below a0.heap.size a0 w) (e : TypeId) (z : Value) (size bytes : Nat) (ht : P.underlying t = some (.slice e))
    (hinfo : (P.info? e).map (fun i => (i.zero, i.size, i.bytes)) = some (some z, size, bytes)) (hzs : z.cells.size = size) (hsz : 0 < size)
    (v : Value) (n : Nat) (xs : List Value) (hs : a.eval s = v) (hown : w.ownsRow a0.heap.size e size v n xs)
    (A : Option Addr) (m c : Nat) (news : List Value) (hx : a.eval x = .slice A m c) (hr : Rd w size A m news) (h1 : ∀ u ∈ news, u.oneCell' = true)
    (h63 : n + m ≤ maxLen) (hbytes : (n + m) * bytes ≤ 140737488355328)
    (h : ∀ A' c' w', w'.ownsRow a0.heap.size e size (.slice A' (n + m) c') (n + m) (xs ++ news) → Below a0.heap.size a0 w' → w.grownBy w' v.ownBlock → K (a.put o.dst (.slice A' (n + m) c')) w') :
    if Region.wanted o (yielded ops a.tmps) = true then Oper.wp P o a w K Q else E := by
  rw [if_pos hw]
  obtain ⟨i, hi, hz, hsize, hby⟩ := info_parts hinfo
  obtain ⟨A', c', w', hrun, h2, h3, h4⟩ := run_append_rd (P := P) w a0.heap.size t o.type e i z size bytes ht hi hz hsize hby hzs hsz _ n xs hown A m c news hr h1 h63 hbytes hbel.size
  unfold Oper.wp execOp
  simp only [ho, resolve, invoke, builtin, Sem.run_bind, Sem.run_pure, Result.andThen_ok, List.map_toArray, List.map_cons, List.map_nil, hs, hx, hrun]
  exact h A' c' w' h2 (hbel.grown h3 hbel.size (fun g hg => (hown.lt g hg).1)) h3
theorem own_lit0 (w0 w : World) (e : TypeId) (size g : Nat) (hb : w.heap.size ≤ w0.heap.size) (hg : g = w0.heap.size) : (w0.alloc (.cells #[] e)).ownsRow w.heap.size e size (.slice (some ⟨g, 0, none⟩) 0 0) 0 [] := by
  subst hg
  have := World.ownsRow_lit (base := w.heap.size) (e := e) (size := size) w0 #[] 0 hb (Nat.zero_le _) (by simp)
  simpa using this
theorem bel_alloc {w w' : World} (h : Below w.heap.size w w') (o : Obj) : Below w.heap.size w (w'.alloc o) := h.alloc h.size o
theorem bel_drew {B : Nat} {w w' : World} (h : Below B w w') : Below B w w'.drew := ⟨h.os, h.tape, h.output, h.size, h.block⟩
theorem rd_rule (w : World) (r : Rules.Rule) (e : TypeId) (g : Nat) (hg : g = w.heap.size) : Rd (w.alloc (.cells #[.int .i64 r.fr, .int .i64 r.to, .int .i64 r.proto, .int .u32 r.src, .int .u32 r.dst, .int .i64 r.sb, .int .i64 r.db, .int .i64 r.lo, .int .i64 r.hi, .int .i64 r.act] e)) 10 (some ⟨g, 0, none⟩) 1 r.cells := by
  subst hg
  refine ⟨rfl, fun _ => ⟨_, _, rfl, by simp, fun j u hu => ?_⟩⟩
  rw [box_cell]
  simpa [Rules.Rule.cells] using hu
theorem Rd.grown {w w' : World} {s n b off g : Nat} {xs : List Value} (h : Rd w s (some ⟨b, off, none⟩) n xs) (hg : w.grownBy w' (some g)) (hne : b ≠ g) : Rd w' s (some ⟨b, off, none⟩) n xs :=
  ⟨h.1, fun hn => by
    obtain ⟨b', off', e, hb, hc⟩ := h.2 hn
    injection e with e
    injection e with e1 e2
    subst e1 e2
    refine ⟨_, _, rfl, Nat.lt_of_lt_of_le hb hg.size, fun j u hu => ?_⟩
    have := hg.block b hb (by simp; exact hne)
    rw [World.cell?_of_block (w := w) (a := ⟨b, off + j, none⟩) this]
    exact hc j u hu⟩
theorem RdRow.of_own {w : World} {base : Nat} {e : TypeId} {c : Nat} {A : Option Addr} {l : List Rules.Rule} {n : Nat} (h : w.ownsRow base e 10 (.slice A n c) n (rcells l)) (hl : l.length = n) (hn : n ≤ 100) : RdRow w A n l := RdRow.of_rd (Rd.of_own h) hl (by omega)
theorem rcells_snoc (l : List Rules.Rule) (r : Rules.Rule) : rcells l ++ r.cells = rcells (l ++ [r]) := by simp [rcells]
theorem rcells_cons (l : List Rules.Rule) (r : Rules.Rule) : r.cells ++ rcells l = rcells (r :: l) := by simp [rcells]
theorem one_rule (r : Rules.Rule) : ∀ u ∈ r.cells, u.oneCell' = true := by
  have := one_rules [r]
  simpa [rcells] using this
theorem own_lit1 (w0 w : World) (r : Rules.Rule) (e : TypeId) (g : Nat) (hb : w.heap.size ≤ w0.heap.size) (hg : g = w0.heap.size) : (w0.alloc (.cells #[.int .i64 r.fr, .int .i64 r.to, .int .i64 r.proto, .int .u32 r.src, .int .u32 r.dst, .int .i64 r.sb, .int .i64 r.db, .int .i64 r.lo, .int .i64 r.hi, .int .i64 r.act] e)).ownsRow w.heap.size e 10 (.slice (some ⟨g, 0, none⟩) 1 1) 1 r.cells := by
  subst hg
  have := World.ownsRow_lit (base := w.heap.size) (e := e) (size := 10) w0 #[.int .i64 r.fr, .int .i64 r.to, .int .i64 r.proto, .int .u32 r.src, .int .u32 r.dst, .int .i64 r.sb, .int .i64 r.db, .int .i64 r.lo, .int .i64 r.hi, .int .i64 r.act] 1 hb (by unfold maxLen; omega) (by simp)
  simpa [Rules.Rule.cells] using this
end Go.Proofs.Ytdocojhjknhjnaa
