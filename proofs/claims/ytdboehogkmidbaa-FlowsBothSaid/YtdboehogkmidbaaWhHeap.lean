/- The walks of container/heap's Push, Fix, Pop, Remove over the alarms. -/
import Derived.Test.YtdboehogkmidbaaWhPush
namespace Go.Proofs.Ytdboehogkmidbaa
open Go.RowKit
set_option linter.unusedVariables false
set_option linter.unusedSimpArgs false
theorem nodup_snoc {l : List Wh.Al} {x : Wh.Al} (h : (l.map (·.k)).Nodup) (hx : Wh.place l x.k = none) : ((l ++ [x]).map (·.k)).Nodup := by
  rw [List.map_append, List.nodup_append]
  refine ⟨h, by simp, fun a ha b hb => ?_⟩
  obtain ⟨y, hy, rfl⟩ := List.mem_map.1 ha
  simp only [List.map_cons, List.map_nil, List.mem_singleton] at hb
  subst hb
  exact Wh.place_none hx y hy
theorem al_app {l : List Wh.Al} {x : Wh.Al} {p : Nat} : Wh.al (l ++ [x]) p = if p = l.length then x else Wh.al l p := by
  unfold Wh.al
  by_cases hp : p < l.length
  · rw [if_neg (by omega), List.getD_eq_getElem?_getD, List.getElem?_append_left hp, List.getD_eq_getElem?_getD]
  · by_cases he : p = l.length
    · subst he; simp
    · rw [if_neg he]
      simp only [List.getD_eq_getElem?_getD]
      rw [List.getElem?_eq_none (by simp; omega), List.getElem?_eq_none (by omega)]
theorem pl_push {es : List Mi.E} {l : List Wh.Al} {x : Wh.Al} {ck : Nat} (h : (l.map (·.k)).Nodup) (hx : Wh.place l x.k = none) (hp : ∀ k, Mi.get es k = (Wh.place l k).map (fun i => (i : Int))) (k : Int) :
    Mi.get (es ++ [(x.k, (l.length : Int), ck)]) k = (Wh.place (l ++ [x]) k).map (fun i => (i : Int)) := by
  have hn : Mi.get es x.k = none := by rw [hp, hx]; rfl
  have hd := nodup_snoc h hx
  rw [Mi.get_add hn]
  by_cases hk : k = x.k
  · rw [if_pos hk]
    have : Wh.place (l ++ [x]) k = some l.length := by
      rw [Wh.place_iff hd]
      exact ⟨by simp, by rw [al_app, if_pos rfl, hk]⟩
    rw [this]; rfl
  · rw [if_neg hk, hp]
    suffices e : Wh.place l k = Wh.place (l ++ [x]) k by rw [e]
    apply Option.ext
    intro p
    rw [Wh.place_iff h, Wh.place_iff hd, al_app, List.length_append, List.length_cons, List.length_nil]
    constructor
    · rintro ⟨h1, h2⟩
      exact ⟨by omega, by rw [if_neg (by omega)]; exact h2⟩
    · rintro ⟨h1, h2⟩
      by_cases he : p = l.length
      · rw [if_pos he] at h2; exact absurd h2.symm hk
      · rw [if_neg he] at h2; exact ⟨by omega, h2⟩
section
variable {w w' : World} {L : Loc} {c : Nat} {es : List Mi.E} {ck : Nat} {l : List Wh.Al} {now : Int}
theorem WM.push_wm (h : WM w L c es ck l now) {x : Wh.Al} (hx : Wh.place l x.k = none) (hl : l.length < 256) :
    Calls Try.prog 63 #[.pointer (some ⟨L.gw, 0, none⟩), .iface 86 (.agg #[.int .i64 x.k, .int .i64 x.t])] w fun e w' => e = .returned (.tuple #[]) ∧ Wgo w L (l ++ [x]) now w' := by
  refine (apush_spec L.gw L.gm L.A l.length c x l es ck now w h.box h.wm h.map (by omega) h.row (by rw [h.pl, hx]; rfl)).mono ?_
  rintro e w' ⟨rfl, A', c', hB, hM, hO, hat, hK⟩
  have hA' : ∃ gr', A' = some ⟨gr', 0, none⟩ := by
    rcases hO.2 with ⟨_, h1⟩ | ⟨gr, cap, cur, hv, _⟩
    · omega
    · injection hv with hv
      exact ⟨gr, hv⟩
  obtain ⟨gr', rfl⟩ := hA'
  have hlen : (l ++ [x]).length = l.length + 1 := by simp
  have hown : ∀ k, (Value.slice L.A l.length c).ownBlock = some k → L.gr = some k := fun k hk => by
    unfold Loc.A at hk
    cases hg : L.gr with
    | none => rw [hg] at hk; simp [Value.ownBlock] at hk
    | some g => rw [hg] at hk; simpa [Value.ownBlock] using hk
  refine ⟨rfl, ⟨L.gw, some gr', L.gm⟩, c', _, _, ⟨?_, ?_, hM, nodup_snoc h.dist hx, pl_push h.dist hx h.pl, by rw [hlen]; omega⟩, ⟨rfl, rfl, fun g hg => ?_, ?_⟩⟩
  · rw [hlen]; exact hB
  · rw [hlen]; exact hO
  · simp only [Option.some.injEq] at hg
    subst hg
    simp only [Value.ownBlock] at hat
    rcases hat with h1 | ⟨b, h1, h2⟩
    · exact Or.inl (hown _ h1.symm)
    · simp only [Option.some.injEq] at h1
      subst h1
      exact Or.inr h2
  · exact ⟨hK.os, hK.tape, hK.out, hK.size, fun k hk hn => hK.block k hk (fun e => hn (by
      rcases e with e | e | e
      · exact Or.inl e
      · exact Or.inr (Or.inl e)
      · exact Or.inr (Or.inr (hown _ e))))⟩
set_option maxRecDepth 8000 in
set_option maxHeartbeats 4000000 in
theorem WM.hpush (h : WM w L c es ck l now) {x : Wh.Al} (hx : Wh.place l x.k = none) (hl : l.length < 256) :
    Calls Try.prog 36 #[.iface 88 (.pointer (some ⟨L.gw, 0, none⟩)), .iface 86 (.agg #[.int .i64 x.k, .int .i64 x.t])] w fun e w' => e = .returned (.tuple #[]) ∧ Wgo w L (Wh.pushL l x) now w' := by
  have HP := h.push_wm hx hl
  obtain ⟨gw, hgw⟩ : ∃ gw, gw = L.gw := ⟨_, rfl⟩
  rw [← hgw] at HP ⊢
  have MP : ∀ W : World, (method 195 88 (.pointer (some ⟨gw, 0, none⟩)) "Push").run Try.prog W = .ok (63, .pointer (some ⟨gw, 0, none⟩)) W := fun W => by kernel_rfl
  have ML : ∀ W : World, (method 195 88 (.pointer (some ⟨gw, 0, none⟩)) "Len").run Try.prog W = .ok (35, .pointer (some ⟨gw, 0, none⟩)) W := fun W => by kernel_rfl
  have HP := Lib.hid HP
  have HG := Lib.hid hgw
  clear h hx hgw
  go_enter Try.func36, Try.ntmps36
  go_wp2_with fail
  refine HP.out.mono ?_
  rintro e w1 ⟨rfl, L1, c1, es1, ck1, hW1, hS1⟩
  have hlen : (l ++ [x]).length = l.length + 1 := by simp
  have HL1 := hW1.len_wm
  rw [hlen, hS1.gw, ← HG.out, show ((l.length + 1 : Nat) : Int) = (l.length : Int) + 1 by omega] at HL1
  have HL1 := Lib.hid HL1
  have HU1 := hup_spec (l.length + 1) l.length L1 c1 es1 ck1 (l ++ [x]) now w1 hW1 (by rw [hlen]; omega) (by omega)
  rw [hS1.gw, ← HG.out] at HU1
  have HU1 := Lib.hid HU1
  have HS1 := Lib.hid hS1
  clear hW1 hS1 hlen HP
  go_wp2_with fail
  refine HL1.out.mono ?_
  rintro e w2 ⟨rfl, rfl⟩
  go_wp2_with fail
  refine HU1.out.mono ?_
  rintro e w3 ⟨rfl, hW3⟩
  have HW3 := Lib.hid (Wgo.then HS1.out hW3)
  clear hW3 HU1 HL1 HS1
  go_wp2_with fail
  go_end0
  exact ⟨rfl, HW3.out⟩
set_option maxRecDepth 8000 in
set_option maxHeartbeats 4000000 in
theorem WM.hfix (h : WM w L c es ck l now) {i : Nat} (hi : i < l.length) :
    Calls Try.prog 34 #[.iface 88 (.pointer (some ⟨L.gw, 0, none⟩)), .int .i64 i] w fun e w' => e = .returned (.tuple #[]) ∧ Wgo w L (Wh.fixL l i) now w' := by
  have hs := h.sm
  have HL := h.len_wm
  have HD := hdown_spec l.length i l.length L c es ck l now w h (by omega) (Nat.le_refl _) (by omega)
  obtain ⟨gw, hgw⟩ : ∃ gw, gw = L.gw := ⟨_, rfl⟩
  rw [← hgw] at HL HD ⊢
  have ML : ∀ W : World, (method 195 88 (.pointer (some ⟨gw, 0, none⟩)) "Len").run Try.prog W = .ok (35, .pointer (some ⟨gw, 0, none⟩)) W := fun W => by kernel_rfl
  have hF : Wh.fixL l i = if i < (Wh.down l.length l i l.length).2 then (Wh.down l.length l i l.length).1 else Wh.up (i + 1) (Wh.down l.length l i l.length).1 i := rfl
  have hlen : (Wh.down l.length l i l.length).1.length = l.length := Wh.down_len _ _ _ _
  obtain ⟨D, hD⟩ : ∃ D, D = Wh.down l.length l i l.length := ⟨_, rfl⟩
  rw [← hD] at hF hlen HD
  have HL := Lib.hid HL
  have HD := Lib.hid HD
  have HG := Lib.hid hgw
  have HF := Lib.hid hF
  clear h hgw hF hD
  go_enter Try.func34, Try.ntmps34
  go_wp2_with fail
  refine HL.out.mono ?_
  rintro e w0 ⟨rfl, rfl⟩
  clear HL
  go_wp2_with fail
  refine HD.out.mono ?_
  rintro e w1 ⟨rfl, L1, c1, es1, ck1, hW1, hS1⟩
  clear HD
  by_cases hc : i < D.2
  · rw [show decide (i < D.2) = true from decide_eq_true hc]
    have HW := Lib.hid (show Wgo w L (Wh.fixL l i) now w1 by rw [HF.out, if_pos hc]; exact ⟨L1, c1, es1, ck1, hW1, hS1⟩)
    clear hW1 hS1 hc
    go_wp2_with fail
    go_end0
    exact ⟨rfl, HW.out⟩
  · rw [show decide (i < D.2) = false from decide_eq_false hc]
    have HU1 := hup_spec (i + 1) i L1 c1 es1 ck1 D.1 now w1 hW1 (by rw [hlen]; exact hi) (by omega)
    rw [hS1.gw, ← HG.out] at HU1
    have HU1 := Lib.hid HU1
    have HC := Lib.hid hc
    have HS1 := Lib.hid hS1
    clear hW1 hS1 hc
    go_wp2_with fail
    refine HU1.out.mono ?_
    rintro e w3 ⟨rfl, hW3⟩
    have HW3 := Lib.hid (Wgo.then HS1.out hW3)
    clear hW3 HU1 HS1
    go_wp2_with fail
    go_end0
    exact ⟨rfl, by rw [HF.out, if_neg HC.out]; exact HW3.out⟩
end
end Go.Proofs.Ytdboehogkmidbaa
