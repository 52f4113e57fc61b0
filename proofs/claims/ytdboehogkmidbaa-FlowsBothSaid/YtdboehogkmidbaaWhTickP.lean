/- A wheel in memory beside a row of ints that grows. No walk. -/
import Derived.Test.YtdboehogkmidbaaWhSet
namespace Go.Proofs.Ytdboehogkmidbaa
open Go.RowKit
set_option linter.unusedVariables false
set_option linter.unusedSimpArgs false
section
variable {P : Program} {w : World}
theorem wpList_appB {ops : Array Oper} {rest : List Oper} {o : Oper} {a : Act} {Q : Exit → Act → World → Prop} (hgd : o.guard = none) (s x : Operand) (t : TypeId)
    (ho : o.op = .call { callee := .builtin .append, args := #[s, x], argTypes := #[t, t] })
    (base : Nat) (hbase : base ≤ w.heap.size) (e : TypeId) (z : Value) (size bytes : Nat) (ht : P.underlying t = some (.slice e))
    (hinfo : (P.info? e).map (fun i => (i.zero, i.size, i.bytes)) = some (some z, size, bytes)) (hzs : z.cells.size = size) (hsz : 0 < size)
    (v : Value) (n : Nat) (xs : List Value) (hs : a.eval s = v) (hown : w.ownsRow base e size v n xs)
    (A : Option Addr) (m c : Nat) (news : List Value) (hx : a.eval x = .slice A m c) (hr : Rd w size A m news) (h1 : ∀ u ∈ news, u.oneCell' = true)
    (h63 : n + m ≤ maxLen) (hbytes : (n + m) * bytes ≤ 140737488355328)
    (h : ∀ A' c' w', w'.ownsRow base e size (.slice A' (n + m) c') (n + m) (xs ++ news) → w.grownBy w' v.ownBlock → ((Value.slice A' (n + m) c').ownBlock = v.ownBlock ∨ (Value.slice A' (n + m) c').ownBlock = some w.heap.size) → wpList P ops Q rest (a.put o.dst (.slice A' (n + m) c')) w') : wpList P ops Q (o :: rest) a w := by
  refine wpList_plain hgd fun K hK => ?_
  obtain ⟨i, hi, hz, hsize, hby⟩ := info_parts hinfo
  obtain ⟨A', c', w', hrun, h2, h3, h4⟩ := run_append_rd (P := P) w base t o.type e i z size bytes ht hi hz hsize hby hzs hsz v n xs hown A m c news hr h1 h63 hbytes hbase
  unfold Oper.wp execOp
  simp only [ho, resolve, invoke, builtin, Sem.run_bind, Sem.run_pure, Result.andThen_ok, List.map_toArray, List.map_cons, List.map_nil, hs, hx, hrun]
  exact hK _ _ (h A' c' w' h2 h3 h4)
end
theorem own_grown {w w' : World} {b b' sz sz' n n' : Nat} {e e' : TypeId} {v v' : Value} {xs xs' : List Value} (h : w.ownsRow b e sz v n xs) (h' : w.ownsRow b' e' sz' v' n' xs') (he : e ≠ e') (hg : w.grownBy w' v'.ownBlock) : w'.ownsRow b e sz v n xs := by
  obtain ⟨h1, h2 | ⟨gr, cap, cur, hv, hb, hgr, hr⟩⟩ := h
  · exact ⟨h1, Or.inl h2⟩
  · refine ⟨h1, Or.inr ⟨gr, cap, cur, hv, hb, ?_, hr⟩⟩
    rw [hg.block gr (Array.getElem?_eq_some_iff.1 hgr).1 (fun e1 => ?_)]
    · exact hgr
    · have hB : BlkV w gr e cur.toList := by unfold BlkV; simpa using hgr
      exact own_ne h' hB (Ne.symm he) e1.symm
section
variable {w w' : World} {L : Loc} {c : Nat} {es : List Mi.E} {ck : Nat} {l : List Wh.Al} {now : Int}
theorem WM.grown (h : WM w L c es ck l now) {b n : Nat} {v : Value} {xs : List Value} (ho : w.ownsRow b 3 1 v n xs) (hg : w.grownBy w' v.ownBlock) : WM w' L c es ck l now :=
  ⟨(hg.block _ h.box.lt (fun e => own_ne ho h.box (by decide) e.symm)).trans h.box, own_grown h.row ho (by decide) hg,
    ⟨(hg.block _ h.map.lt (fun e => own_nem ho h.map e.symm)).trans h.map.blk, h.map.ok⟩, h.dist, h.pl, h.sm⟩
theorem Step.grown {w wx : World} {L L' : Loc} (h : Step w wx L L') {row : Option Nat} (hg : wx.grownBy w' row) (hr : ∀ k, row = some k → w.heap.size ≤ k) : Step w w' L L' := by
  refine ⟨h.gw, h.gm, h.gr, ?_⟩
  have k1 : Keeps (fun k => row = some k) wx w' := ⟨hg.os, hg.tape, hg.output, hg.size, fun k hk hn => hg.block k hk (fun e => hn e.symm)⟩
  exact h.keeps.trans k1 (fun k hk => Or.inr (hr k hk))
theorem own_step {L2 : Loc} (h : WM w L c es ck l now) {b n : Nat} {v : Value} {xs : List Value} (ho : w.ownsRow b 3 1 v n xs) (hS : Step w w' L L2) : w'.ownsRow b 3 1 v n xs := by
  have ha := own_ne ho h.box (by decide)
  have hm := own_nem ho h.map
  have hrow := h.row
  obtain ⟨h1, h2 | ⟨gr, cap, cur, rfl, hb, hgr, hr⟩⟩ := ho
  · exact ⟨h1, Or.inl h2⟩
  · refine ⟨h1, Or.inr ⟨gr, cap, cur, rfl, hb, ?_, hr⟩⟩
    have hB : BlkV w gr 3 cur.toList := by unfold BlkV; simpa using hgr
    rw [hS.keeps.block gr (Array.getElem?_eq_some_iff.1 hgr).1 (fun e1 => ?_)]
    · exact hgr
    · rcases e1 with e1 | e1 | e1
      · exact ha (by rw [e1]; rfl)
      · exact hm (by rw [e1]; rfl)
      · exact own_ne hrow hB (by decide) (by unfold Loc.A; rw [e1]; rfl)
theorem WM.settime (h : WM w L c es ck l now) (t : Int) : WM (w.setCell ⟨L.gw, 2, none⟩ (.int .i64 t)) L c es ck l t ∧ Step w (w.setCell ⟨L.gw, 2, none⟩ (.int .i64 t)) L L := by
  have O := OnlyB.set w L.gw 2 (.int .i64 t)
  exact ⟨⟨h.box.put 2 _, own_box h.row h.box (by decide) O, ⟨(O.block _ (Ne.symm h.wm)).trans h.map.blk, h.map.ok⟩, h.dist, h.pl, h.sm⟩, ⟨rfl, rfl, fun g hg => Or.inl hg, Keeps.of_only O _ (Or.inl rfl)⟩⟩
end
end Go.Proofs.Ytdboehogkmidbaa
