/- The walks of wheel.Set, Drop. -/
import Derived.Test.YtdboehogkmidbaaWhApi
namespace Go.Proofs.Ytdboehogkmidbaa
open Go.RowKit
set_option linter.unusedVariables false
set_option linter.unusedSimpArgs false
theorem Wh.place_map (l : List Wh.Al) (k : Int) : Wh.place l k = (l.map (·.k)).findIdx? (fun y => y == k) := by
  unfold Wh.place
  rw [List.findIdx?_map]
  rfl
theorem set_keys {l : List Wh.Al} {i : Nat} (hi : i < l.length) (t : Int) : (l.set i ⟨(Wh.al l i).k, t⟩).map (·.k) = l.map (·.k) := by
  rw [List.map_set, Wh.al_lt hi]
  have : (l.map (·.k))[i]'(by simpa using hi) = l[i].k := by simp
  rw [← this, List.set_getElem_self]
theorem acells_put {l : List Wh.Al} {i : Nat} (hi : i < l.length) (t : Int) : acells (l.set i ⟨(Wh.al l i).k, t⟩) = (acells l).set (i * 2 + 1) (.int .i64 t) := by
  rw [acells_set hi, acells_split hi]
  have hl : (acells (l.take i)).length = i * 2 := by rw [acells_len, List.length_take]; omega
  simp only [Wh.Al.cells, List.append_assoc, List.cons_append, List.nil_append]
  rw [List.set_append, if_neg (by rw [hl]; omega), hl, show i * 2 + 1 - i * 2 = 1 by omega]
  rfl
section
variable {w w' : World} {L : Loc} {c : Nat} {es : List Mi.E} {ck : Nat} {l : List Wh.Al} {now : Int}
theorem WM.retime (h : WM w L c es ck l now) {i gr : Nat} (hi : i < l.length) (hg : L.gr = some gr) (t : Int) :
    WM (w.setCell ⟨gr, i * 2 + 1, none⟩ (.int .i64 t)) L c es ck (l.set i ⟨(Wh.al l i).k, t⟩) now ∧ Step w (w.setCell ⟨gr, i * 2 + 1, none⟩ (.int .i64 t)) L L := by
  obtain ⟨gr', rest, hg', hR, h1, h2, h3⟩ := h.arow (by omega)
  rw [hg] at hg'
  injection hg' with hg'
  subst hg'
  have hA : L.A = some ⟨gr, 0, none⟩ := by unfold Loc.A; rw [hg]; rfl
  have O := OnlyB.set w gr (i * 2 + 1) (.int .i64 t)
  have hrw := hR.ne_box h.box
  have hrm := hR.ne_map h.map
  have hlen : (l.set i ⟨(Wh.al l i).k, t⟩).length = l.length := by simp
  have hR2 : ARow (w.setCell ⟨gr, i * 2 + 1, none⟩ (.int .i64 t)) gr (l.set i ⟨(Wh.al l i).k, t⟩) rest := ⟨by
    have := hR.blk.put (i * 2 + 1) (.int .i64 t)
    rw [List.set_append, if_pos (by rw [acells_len]; omega), ← acells_put hi] at this
    exact this⟩
  refine ⟨⟨?_, ?_, ⟨(O.block _ (Ne.symm hrm)).trans h.map.blk, h.map.ok⟩, by rw [set_keys hi]; exact h.dist, fun k => ?_, by rw [hlen]; exact h.sm⟩, ⟨rfl, rfl, fun g hg => Or.inl hg, Keeps.of_only O _ (Or.inr (Or.inr hg))⟩⟩
  · rw [hlen]; exact h.box.only O (Ne.symm hrw)
  · rw [hA]; exact hR2.owns (by rw [hlen]; exact h1) h2 (by rw [hlen]; exact h3)
  · rw [h.pl, Wh.place_map, Wh.place_map, set_keys hi]
set_option maxRecDepth 8000 in
set_option maxHeartbeats 4000000 in
theorem WM.set_some (h : WM w L c es ck l now) {k t : Int} {i : Nat} (hk : Wh.place l k = some i) (h0 : 0 ≤ k) (h1 : k ≤ 2147483647) (h2 : 0 ≤ t) (h3 : t ≤ 1099511627776) (h4 : now < t) :
    Calls Try.prog 20 #[.pointer (some ⟨L.gw, 0, none⟩), .int .i64 k, .int .i64 t] w fun e w' => e = .returned (.int .i64 0) ∧ Wgo w L (Wh.setL l k t) now w' := by
  have hlk := h.look k
  rw [hk] at hlk
  have hlk' : (Instr.lookup 74 (.map (some L.gm)) (.int .i64 k) true).run Try.prog w = .ok (.tuple #[.int .i64 i, .bool true]) w := hlk
  obtain ⟨hi, hik⟩ := Wh.place_some hk
  obtain ⟨gr, rest, hg, hR, q1, q2, q3⟩ := h.arow (by omega)
  obtain ⟨c0, c1, c2⟩ := h.cells
  have hA : L.A = some ⟨gr, 0, none⟩ := by unfold Loc.A; rw [hg]; rfl
  rw [hA] at c0
  obtain ⟨x0, x1⟩ := hR.cells hi
  have fr := hR.blk.unfrozen (i * 2 + 1)
  have hiz : (i : Int) < (l.length : Int) := by omega
  have hs := h.sm
  obtain ⟨hW, hS⟩ := h.retime hi hg t
  rw [hik] at hW
  have HF := Lib.hid (hW.hfix (i := i) (by simpa using hi))
  have hset : Wh.setL l k t = Wh.fixL (l.set i ⟨k, t⟩) i := by unfold Wh.setL; rw [hk]
  have HST := Lib.hid hset
  have HS := Lib.hid hS
  clear h hlk hR hk hik hW hS hset q1 q2 q3
  go_enter Try.func20, Try.ntmps20
  go_wp2_with fail
  refine HF.out.mono ?_
  rintro e w1 ⟨rfl, hW⟩
  have HW := Lib.hid (Wgo.then HS.out hW)
  clear hW HF HS
  go_wp2_with fail
  go_ret
  exact ⟨rfl, by rw [HST.out]; exact HW.out⟩
set_option maxRecDepth 8000 in
set_option maxHeartbeats 4000000 in
theorem WM.set_full (h : WM w L c es ck l now) {k t : Int} (hk : Wh.place l k = none) (h0 : 0 ≤ k) (h1 : k ≤ 2147483647) (h2 : 0 ≤ t) (h3 : t ≤ 1099511627776) (h4 : now < t) (h5 : l.length = 256) :
    Calls Try.prog 20 #[.pointer (some ⟨L.gw, 0, none⟩), .int .i64 k, .int .i64 t] w fun e w' => e = .returned (.int .i64 8) ∧ w = w' := by
  have hlk := h.look k
  rw [hk] at hlk
  have hlk' : (Instr.lookup 74 (.map (some L.gm)) (.int .i64 k) true).run Try.prog w = .ok (.tuple #[.int .i64 0, .bool false]) w := hlk
  obtain ⟨c0, c1, c2⟩ := h.cells
  have HL := h.len_wm
  rw [h5] at HL
  have HL := Lib.hid HL
  clear h hlk hk
  go_enter Try.func20, Try.ntmps20
  go_wp2_with fail
  refine HL.out.mono ?_
  rintro e w1 ⟨rfl, rfl⟩
  clear HL
  go_wp2_with fail
  go_ret
  exact ⟨rfl, rfl⟩
set_option maxRecDepth 8000 in
set_option maxHeartbeats 4000000 in
theorem WM.set_new (h : WM w L c es ck l now) {k t : Int} (hk : Wh.place l k = none) (h0 : 0 ≤ k) (h1 : k ≤ 2147483647) (h2 : 0 ≤ t) (h3 : t ≤ 1099511627776) (h4 : now < t) (h5 : l.length < 256) :
    Calls Try.prog 20 #[.pointer (some ⟨L.gw, 0, none⟩), .int .i64 k, .int .i64 t] w fun e w' => e = .returned (.int .i64 0) ∧ Wgo w L (Wh.setL l k t) now w' := by
  have hlk := h.look k
  rw [hk] at hlk
  have hlk' : (Instr.lookup 74 (.map (some L.gm)) (.int .i64 k) true).run Try.prog w = .ok (.tuple #[.int .i64 0, .bool false]) w := hlk
  obtain ⟨c0, c1, c2⟩ := h.cells
  have HL := Lib.hid h.len_wm
  have HP := Lib.hid (h.hpush (x := ⟨k, t⟩) hk h5)
  have hn : (l.length : Int) ≠ 256 := by omega
  have HST : Hid (Wh.setL l k t = Wh.pushL l ⟨k, t⟩) := Lib.hid (by unfold Wh.setL; rw [hk])
  clear h hlk hk
  go_enter Try.func20, Try.ntmps20
  go_wp2_with fail
  refine HL.out.mono ?_
  rintro e w1 ⟨rfl, rfl⟩
  clear HL
  go_wp2_with fail
  refine HP.out.mono ?_
  rintro e w1 ⟨rfl, hW⟩
  have HW := Lib.hid hW
  clear hW HP
  go_wp2_with fail
  go_ret
  exact ⟨rfl, by rw [HST.out]; exact HW.out⟩
set_option maxRecDepth 8000 in
set_option maxHeartbeats 4000000 in
theorem WM.set_late (h : WM w L c es ck l now) {k t : Int} (h0 : 0 ≤ k) (h1 : k ≤ 2147483647) (h2 : 0 ≤ t) (h3 : t ≤ 1099511627776) (h4 : t ≤ now) :
    Calls Try.prog 20 #[.pointer (some ⟨L.gw, 0, none⟩), .int .i64 k, .int .i64 t] w fun e w' => e = .returned (.int .i64 14) ∧ w = w' := by
  obtain ⟨c0, c1, c2⟩ := h.cells
  clear h
  go_enter Try.func20, Try.ntmps20
  go_wp2_with fail
  go_ret
  exact ⟨rfl, rfl⟩
set_option maxRecDepth 8000 in
set_option maxHeartbeats 4000000 in
theorem set_bad (gw : Nat) {k t : Int} (hb : ¬ (0 ≤ k ∧ k ≤ 2147483647 ∧ 0 ≤ t ∧ t ≤ 1099511627776)) :
    Calls Try.prog 20 #[.pointer (some ⟨gw, 0, none⟩), .int .i64 k, .int .i64 t] w fun e w' => e = .returned (.int .i64 1) ∧ w = w' := by
  have h5 : k < 0 ∨ (¬ k < 0 ∧ 2147483647 < k) ∨ (¬ k < 0 ∧ ¬ 2147483647 < k ∧ t < 0) ∨ (¬ k < 0 ∧ ¬ 2147483647 < k ∧ ¬ t < 0 ∧ 1099511627776 < t) := by omega
  clear hb
  rcases h5 with p1 | ⟨p1, p2⟩ | ⟨p1, p2, p3⟩ | ⟨p1, p2, p3, p4⟩
  all_goals
    go_enter Try.func20, Try.ntmps20
    go_wp2_with fail
    go_ret
    exact ⟨rfl, rfl⟩
theorem set_nil (k t : Int) (w : World) : Calls Try.prog 20 #[.pointer none, .int .i64 k, .int .i64 t] w fun e w' => e = .returned (.int .i64 1) ∧ w = w' := by
  go_enter Try.func20, Try.ntmps20
  go_wp2_with fail
  go_ret
  exact ⟨rfl, rfl⟩
theorem drop_nil (k : Int) (w : World) : Calls Try.prog 22 #[.pointer none, .int .i64 k] w fun e w' => e = .returned (.int .i64 1) ∧ w = w' := by
  go_enter Try.func22, Try.ntmps22
  go_wp2_with fail
  go_ret
  exact ⟨rfl, rfl⟩
theorem WM.drop_none (h : WM w L c es ck l now) {k : Int} (hk : Wh.place l k = none) :
    Calls Try.prog 22 #[.pointer (some ⟨L.gw, 0, none⟩), .int .i64 k] w fun e w' => e = .returned (.int .i64 9) ∧ w = w' := by
  have hlk := h.look k
  rw [hk] at hlk
  have hlk' : (Instr.lookup 74 (.map (some L.gm)) (.int .i64 k) true).run Try.prog w = .ok (.tuple #[.int .i64 0, .bool false]) w := hlk
  obtain ⟨c0, c1, c2⟩ := h.cells
  clear h hlk hk
  go_enter Try.func22, Try.ntmps22
  go_wp2_with fail
  go_ret
  exact ⟨rfl, rfl⟩
theorem WM.drop_some (h : WM w L c es ck l now) {k : Int} {i : Nat} (hk : Wh.place l k = some i) :
    Calls Try.prog 22 #[.pointer (some ⟨L.gw, 0, none⟩), .int .i64 k] w fun e w' => e = .returned (.int .i64 0) ∧ Wgo w L (Wh.remL l i) now w' := by
  have hlk := h.look k
  rw [hk] at hlk
  have hlk' : (Instr.lookup 74 (.map (some L.gm)) (.int .i64 k) true).run Try.prog w = .ok (.tuple #[.int .i64 i, .bool true]) w := hlk
  obtain ⟨hi, hik⟩ := Wh.place_some hk
  obtain ⟨c0, c1, c2⟩ := h.cells
  obtain ⟨n, hn⟩ : ∃ n, l.length = n + 1 := ⟨l.length - 1, by omega⟩
  have HR := Lib.hid (h.hrem hn hi)
  clear h hlk hk hik
  go_enter Try.func22, Try.ntmps22
  go_wp2_with fail
  refine HR.out.mono ?_
  rintro e w1 ⟨rfl, hW⟩
  have HW := Lib.hid hW
  clear hW HR
  go_wp2_with fail
  go_ret
  exact ⟨rfl, HW.out⟩
end
end Go.Proofs.Ytdboehogkmidbaa
