/- The walk of wheel.Tick. -/
import Derived.Test.YtdboehogkmidbaaWhTickP
namespace Go.Proofs.Ytdboehogkmidbaa
open Go.RowKit
set_option linter.unusedVariables false
set_option linter.unusedSimpArgs false
theorem infoI : (Try.prog.info? 3).map (fun i => (i.zero, i.size, i.bytes)) = some (some (.int .i64 0), 1, 8) := by kernel_rfl
def ks (l : List Wh.Al) : List Value := l.map (fun x => .int .i64 x.k)
theorem one_ks (l : List Wh.Al) : ∀ u ∈ ks l, u.oneCell' = true := by
  intro u hu
  obtain ⟨x, _, rfl⟩ := List.mem_map.1 hu
  rfl
theorem ks_snoc (l : List Wh.Al) (x : Wh.Al) : ks l ++ [.int .i64 x.k] = ks (l ++ [x]) := by simp [ks]
section
variable {w w' : World} {L : Loc} {c : Nat} {es : List Mi.E} {ck : Nat} {l : List Wh.Al} {now : Int}
theorem tick_nil (t : Int) (w : World) : Calls Try.prog 25 #[.pointer none, .int .i64 t] w fun e w' => e = .returned (.tuple #[.slice none 0 0, .int .i64 1]) ∧ w = w' := by
  go_enter Try.func25, Try.ntmps25
  go_wp2_with fail
  go_ret2
  exact ⟨rfl, rfl⟩
theorem WM.tick_bad (h : WM w L c es ck l now) {t : Int} (ht : t < now ∨ 1099511627776 < t) : Calls Try.prog 25 #[.pointer (some ⟨L.gw, 0, none⟩), .int .i64 t] w fun e w' => e = .returned (.tuple #[.slice none 0 0, .int .i64 1]) ∧ w = w' := by
  obtain ⟨c0, c1, c2⟩ := h.cells
  clear h
  have h5 : t < now ∨ (¬ t < now ∧ 1099511627776 < t) := by omega
  clear ht
  rcases h5 with p1 | ⟨p1, p2⟩
  all_goals
    go_enter Try.func25, Try.ntmps25
    go_wp2_with fail
    go_ret2
    exact ⟨rfl, rfl⟩
def TickR (w : World) (L : Loc) (r : List Wh.Al × List Wh.Al) (t : Int) (e : Ending) (w' : World) : Prop :=
  ∃ B d, e = .returned (.tuple #[.slice B r.1.length d, .int .i64 0]) ∧ w'.ownsRow w.heap.size 3 1 (.slice B r.1.length d) r.1.length (ks r.1) ∧ Wgo w L r.2 t w'
set_option maxRecDepth 8000 in
set_option maxHeartbeats 8000000 in
theorem WM.tick (h : WM w L c es ck l now) {t : Int} (h0 : now ≤ t) (h1 : t ≤ 1099511627776) : Calls Try.prog 25 #[.pointer (some ⟨L.gw, 0, none⟩), .int .i64 t] w (TickR w L (Wh.tickL (l.length + 1) l t) t) := by
  obtain ⟨c0, c1, c2⟩ := h.cells
  have fr := h.box.unfrozen 2
  obtain ⟨hW, hS⟩ := h.settime t
  have hs := h.sm
  obtain ⟨V, hV⟩ : ∃ V, V = w.setCell ⟨L.gw, 2, none⟩ (.int .i64 t) := ⟨_, rfl⟩
  rw [← hV] at hW hS
  obtain ⟨R, hR⟩ : ∃ R, R = Wh.tickL (l.length + 1) l t := ⟨_, rfl⟩
  rw [← hR]
  obtain ⟨gw, hgw⟩ : ∃ gw, gw = L.gw := ⟨_, rfl⟩
  rw [← hgw] at c0 c1 c2 fr hV ⊢
  have HV := Lib.hid hV
  have HW := Lib.hid hW
  have HS := Lib.hid hS
  have HR := Lib.hid hR
  have HG := Lib.hid hgw
  clear h hV hW hS hR hgw
  go_enter Try.func25, Try.ntmps25
  go_wp2_with fail
  rw [← HV.out]
  clear c0 c1 c2 fr
  go_loopg [6] (l.length + 1) (fun gg s6 wx => ∃ (L' : Loc) (c' : Nat) (es' : List Mi.E) (ck' : Nat) (l' o : List Wh.Al) (B : Option Addr) (d : Nat), l'.length < gg ∧ l'.length + o.length ≤ 256 ∧ s6 = .slice B o.length d ∧ Aside (WM wx L' c' es' ck' l' t) ∧ Aside (Step w wx L L') ∧ Aside (wx.ownsRow w.heap.size 3 1 (.slice B o.length d) o.length (ks o)) ∧ Aside ((o ++ (Wh.tickL gg l' t).1, (Wh.tickL gg l' t).2) = R))
  case atStart => exact ⟨L, c, es, ck, l, [], none, 0, by omega, by simpa using hs, rfl, HW.out, HS.out, ⟨rfl, Or.inl ⟨rfl, rfl⟩⟩, (show (_ : List Wh.Al × List Wh.Al) = R by rw [HR.out]; rfl)⟩
  case round =>
    obtain ⟨L', c', es', ck', l', o, B, d, hlg, hlo, rfl, HW', HS', HO', HU'⟩ := hrel
    have hLg : L'.gw = gw := HS'.out.gw.trans HG.out.symm
    obtain ⟨gk', rfl⟩ : ∃ n, gk = n + 1 := ⟨gk - 1, by omega⟩
    have HL := Lib.hid (hLg ▸ HW'.out.len_wm)
    go_wp2_with fail
    refine HL.out.mono ?_
    rintro e w1 ⟨rfl, rfl⟩
    clear HL
    by_cases hz : l'.length = 0
    · have hzz : (l'.length : Int) = 0 := by omega
      have e : R = (o, l') := by
        rw [← HU'.out]
        unfold Wh.tickL
        rw [if_neg (by omega)]
        simp
      rw [hz]
      have HE := Lib.hid e
      clear e
      go_wp2_with fail
      go_ret2
      rw [HE.out]
      exact ⟨B, d, rfl, HO'.out, L', c', es', ck', HW'.out, HS'.out⟩
    · obtain ⟨n, hn⟩ : ∃ n, l'.length = n + 1 := ⟨l'.length - 1, by omega⟩
      obtain ⟨gr, rest, hg, hRw, q1, q2, q3⟩ := HW'.out.arow (by omega)
      obtain ⟨c0, c1, c2⟩ := HW'.out.cells
      have hA : L'.A = some ⟨gr, 0, none⟩ := by unfold Loc.A; rw [hg]; rfl
      rw [hA, hLg] at c0
      obtain ⟨x0, x1⟩ := hRw.cells (p := 0) (by omega)
      have hiz : (0 : Int) < (l'.length : Int) := by omega
      have HP := HW'.out.hpop hn
      rw [hLg] at HP
      have HP := Lib.hid HP
      simp only [Nat.zero_mul, Nat.zero_add] at x0 x1
      obtain ⟨x, hx⟩ : ∃ x, x = Wh.al l' 0 := ⟨_, rfl⟩
      rw [← hx] at x0 x1 HP
      have HX := Lib.hid hx
      have HN := Lib.hid hn
      clear hRw hg hA hx hn c1 c2 q3
      by_cases hd : x.t ≤ t
      · have HU2 : Hid ((o ++ [x] ++ (Wh.tickL gk' (Wh.remL l' 0) t).1, (Wh.tickL gk' (Wh.remL l' 0) t).2) = R) := Lib.hid (by
          rw [← HU'.out]
          conv => rhs; unfold Wh.tickL
          rw [if_pos ⟨by omega, by rw [← HX.out]; exact hd⟩, ← HX.out]
          simp)
        have hrl : (Wh.remL l' 0).length = n := by rw [Wh.rem_len (by omega), HN.out]; omega
        have HRL := Lib.hid hrl
        have TA : ∀ W : World, (Instr.typeAssert (.iface 86 (.agg #[.int .i64 x.k, .int .i64 x.t])) 20 86 false).run Try.prog W = .ok (.agg #[.int .i64 x.k, .int .i64 x.t]) W := fun W => by kernel_rfl
        have FA : ∀ W : World, (Instr.field 86 (.agg #[.int .i64 x.k, .int .i64 x.t]) 0).run Try.prog W = .ok (.int .i64 x.k) W := fun W => by kernel_rfl
        clear hrl
        go_wp2_with fail
        refine HP.out.mono ?_
        rintro e w2 ⟨rfl, L2, c2, es2, ck2, hW2, hS2⟩
        have hO2 := own_step HW'.out HO'.out hS2
        have hb2 : Below w2.heap.size w2 (w2.alloc (.cells #[.int .i64 x.k] 3)) := (Below.refl _ _).alloc (Nat.le_refl _) _
        have HO2 := Lib.hid (own_below hO2 hb2)
        have HW2 := Lib.hid (hW2.below hb2)
        have HS2 := Lib.hid ((HS'.out.trans hS2).trans (WM.step_below (L := L2) hb2))
        have hsz := Lib.hid HS2.out.keeps.size
        clear hW2 hS2 hO2 hb2 HP x0 x1 c0 HU' HO' HW' HS'
        go_wp2_with (at_builtin; refine wpList_appB rfl (.tmp 42) (.tmp 50) 69 rfl w.heap.size (by exact hsz.out) 3 (.int .i64 0) 1 8 (by kernel_rfl) infoI rfl (by decide) (.slice B o.length d) o.length (ks o) rfl (by exact HO2.out) (some ⟨w2.heap.size, 0, none⟩) 1 1 [.int .i64 x.k] rfl (by exact rd_one w2 _ _) (by intro u hu; rw [List.mem_singleton] at hu; rw [hu]; rfl) (by unfold maxLen; omega) (by omega) ?_; intro B2 d2 w4 hown4 hg4 hat4)
        have HW4 := Lib.hid (HW2.out.grown HO2.out hg4)
        have HS4 := Lib.hid (HS2.out.grown hg4 (fun k hk => (HO2.out.lt k hk).1))
        rw [ks_snoc] at hown4
        have HO4 := Lib.hid hown4
        go_roundg gk'
        case measure => omega
        case rel => exact ⟨L2, c2, es2, ck2, Wh.remL l' 0, o ++ [x], B2, d2, by rw [HRL.out]; have := HN.out; omega, by rw [HRL.out, List.length_append, List.length_singleton]; have := HN.out; omega, by rw [List.length_append]; rfl, HW4.out, HS4.out, by rw [List.length_append, List.length_singleton]; exact HO4.out, HU2.out⟩
      · have e : R = (o, l') := by
          rw [← HU'.out]
          unfold Wh.tickL
          rw [if_neg (by rintro ⟨_, h2⟩; rw [← HX.out] at h2; exact hd h2)]
          simp
        have HE := Lib.hid e
        clear e HP
        go_wp2_with fail
        go_ret2
        rw [HE.out]
        exact ⟨B, d, rfl, HO'.out, L', c', es', ck', HW'.out, HS'.out⟩
end
end Go.Proofs.Ytdboehogkmidbaa
