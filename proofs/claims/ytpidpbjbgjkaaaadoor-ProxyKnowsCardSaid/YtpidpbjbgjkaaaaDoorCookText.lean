/- The walk of cookie.Text. -/
import Derived.Test.YtpidpbjbgjkaaaaDoorCookWalks
import Derived.Deep.RegionHeld3
import Derived.Deep.DrawnRows
import Derived.Deep.DeepCutAuto
namespace Go.Proofs.YtpidpbjbgjkaaaaDoor
open Go.RowKit
set_option linter.unusedVariables false
attribute [local go_sem ↓] Go.wp_at_zero Go.wp_at_succ
section
variable {w : World} {base : Nat} {e : TypeId} {s n : Nat} {v : Value} {xs : List Value}
theorem own_al2 (h : w.ownsRow base e s v n xs) (o : Obj) : (w.alloc o).ownsRow base e s v n xs := h.alloc o
theorem own_dr2 (h : w.ownsRow base e s v n xs) : w.drew.ownsRow base e s v n xs := h
theorem own_drN2 (h : w.ownsRow base e s v n xs) (k : Nat) : (w.drewN k).ownsRow base e s v n xs := h
end
theorem own_one (w : World) (y : Int) : (w.alloc (.cells #[.int .u8 (IntKind.u8.wrap y)] 5)).ownsRow w.heap.size 5 1 (.slice (some ⟨w.heap.size, 0, none⟩) 1 1) 1 (bs [y % 256]) := by
  rw [← IntKind.wrap_u8]
  exact World.ownsRow_lit w #[.int .u8 (IntKind.u8.wrap y)] 1 (Nat.le_refl _) (by decide) rfl
theorem rd_one8 (w : World) (y : Int) : Rd (w.alloc (.cells #[.int .u8 (IntKind.u8.wrap y)] 5)) 1 (some ⟨w.heap.size, 0, none⟩) 1 (bs [y % 256]) := by
  rw [← IntKind.wrap_u8]
  exact rd_one w 5 (.int .u8 (IntKind.u8.wrap y))
theorem tup_c5 (w : World) (t : Cook.Tup) (g : Nat) (h : BlkV w g 25 [.int .i64 t.proto, .int .u32 t.src, .int .i64 t.sport, .int .u32 t.dst, .int .i64 t.dport]) (w' : World) (hb : Below w.heap.size w w') : w'.cell? ⟨g, 0, none⟩ = some (.int .i64 t.proto) ∧ w'.cell? ⟨g, 1, none⟩ = some (.int .u32 t.src) ∧ w'.cell? ⟨g, 2, none⟩ = some (.int .i64 t.sport) ∧ w'.cell? ⟨g, 3, none⟩ = some (.int .u32 t.dst) ∧ w'.cell? ⟨g, 4, none⟩ = some (.int .i64 t.dport) :=
  ⟨(h.below hb).cell (i := 0) rfl, (h.below hb).cell (i := 1) rfl, (h.below hb).cell (i := 2) rfl, (h.below hb).cell (i := 3) rfl, (h.below hb).cell (i := 4) rfl⟩
set_option maxHeartbeats 4000000 in
theorem ctext_spec (t : Cook.Tup) (hw : t.wf) (sq ep pl : Int) (hs0 : 0 ≤ sq) (hs1 : sq ≤ 4294967295) (w : World) :
    Calls Tryd.prog 53 #[.agg #[.int .i64 t.proto, .int .u32 t.src, .int .i64 t.sport, .int .u32 t.dst, .int .i64 t.dport], .int .u32 sq, .int .i64 ep, .int .i64 pl] w fun e w' => ∃ A c, e = .returned (.slice A 22 c) ∧ Rd w' 1 A 22 (bs (Cook.text t sq ep pl)) ∧ Below w.heap.size w w' := by
  obtain ⟨W, hW⟩ : ∃ W, W = w.alloc (.cells #[.int .i64 t.proto, .int .u32 t.src, .int .i64 t.sport, .int .u32 t.dst, .int .i64 t.dport] 25) := ⟨_, rfl⟩
  have hbW : Below w.heap.size w W := by rw [hW]; exact (Below.refl _ _).alloc (Nat.le_refl _) _
  have K5 : Hid (∀ w' : World, Below W.heap.size W w' → w'.cell? ⟨w.heap.size, 0, none⟩ = some (.int .i64 t.proto) ∧ w'.cell? ⟨w.heap.size, 1, none⟩ = some (.int .u32 t.src) ∧ w'.cell? ⟨w.heap.size, 2, none⟩ = some (.int .i64 t.sport) ∧ w'.cell? ⟨w.heap.size, 3, none⟩ = some (.int .u32 t.dst) ∧ w'.cell? ⟨w.heap.size, 4, none⟩ = some (.int .i64 t.dport)) := Lib.hid fun w' hb => tup_c5 W t w.heap.size (by rw [hW]; exact BlkV.new _ _ _) w' hb
  obtain ⟨⟨hs2, hs3⟩, hd2, hd3⟩ := hw
  go_enter Tryd.func53, Tryd.ntmps53
  go_upto_region 1 with (fail)
  rw [← hW]
  clear hW
  go_region_held3 (fun w' => w'.cell? ⟨w.heap.size, 0, none⟩ = some (.int .i64 t.proto) ∧ w'.cell? ⟨w.heap.size, 1, none⟩ = some (.int .u32 t.src) ∧ w'.cell? ⟨w.heap.size, 2, none⟩ = some (.int .i64 t.sport) ∧ w'.cell? ⟨w.heap.size, 3, none⟩ = some (.int .u32 t.dst) ∧ w'.cell? ⟨w.heap.size, 4, none⟩ = some (.int .i64 t.dport)) (exact K5.out _ (by repeat (first | with_reducible exact hbn | with_reducible exact Below.refl W.heap.size W | with_reducible refine bel_al2 ?_ _ | with_reducible refine bel_dr2 ?_ | with_reducible refine bel_drN2 ?_ _)))
    (with_reducible first | (refine (cwhole_spec _ 1 _ [t.proto % 256] t.src W _ (by repeat (first | with_reducible exact hbn | with_reducible exact Below.refl W.heap.size W | with_reducible refine bel_al2 ?_ _ | with_reducible refine bel_dr2 ?_ | with_reducible refine bel_drN2 ?_ _)) (by repeat (first | with_reducible exact hon | exact own_one _ _ | with_reducible refine own_al2 ?_ _ | with_reducible refine own_dr2 ?_ | with_reducible refine own_drN2 ?_ _ | exact hon)) hs2 hs3 (by omega)).mono ?_; rintro e w9 ⟨A9, c9, rfl, hon, hbn⟩) | (refine (chalf_spec _ 5 _ ([t.proto % 256] ++ Cook.w4 t.src) t.sport W _ (by repeat (first | with_reducible exact hbn | with_reducible exact Below.refl W.heap.size W | with_reducible refine bel_al2 ?_ _ | with_reducible refine bel_dr2 ?_ | with_reducible refine bel_drN2 ?_ _)) (by repeat (first | with_reducible exact hon | exact own_one _ _ | with_reducible refine own_al2 ?_ _ | with_reducible refine own_dr2 ?_ | with_reducible refine own_drN2 ?_ _ | exact hon)) (by omega)).mono ?_; rintro e w10 ⟨A10, c10, rfl, hon, hbn⟩))
  go_upto_region 2 with (fail)
  go_region_held3 (fun w' => w'.cell? ⟨w.heap.size, 0, none⟩ = some (.int .i64 t.proto) ∧ w'.cell? ⟨w.heap.size, 1, none⟩ = some (.int .u32 t.src) ∧ w'.cell? ⟨w.heap.size, 2, none⟩ = some (.int .i64 t.sport) ∧ w'.cell? ⟨w.heap.size, 3, none⟩ = some (.int .u32 t.dst) ∧ w'.cell? ⟨w.heap.size, 4, none⟩ = some (.int .i64 t.dport)) (exact K5.out _ (by repeat (first | with_reducible exact hbn | with_reducible exact Below.refl W.heap.size W | with_reducible refine bel_al2 ?_ _ | with_reducible refine bel_dr2 ?_ | with_reducible refine bel_drN2 ?_ _)))
    (with_reducible first | (refine (cwhole_spec _ 7 _ ([t.proto % 256] ++ Cook.w4 t.src ++ Cook.h2 t.sport) t.dst W _ (by repeat (first | with_reducible exact hbn | with_reducible exact Below.refl W.heap.size W | with_reducible refine bel_al2 ?_ _ | with_reducible refine bel_dr2 ?_ | with_reducible refine bel_drN2 ?_ _)) (by repeat (first | with_reducible exact hon | exact own_one _ _ | with_reducible refine own_al2 ?_ _ | with_reducible refine own_dr2 ?_ | with_reducible refine own_drN2 ?_ _ | exact hon)) hd2 hd3 (by omega)).mono ?_; rintro e w11 ⟨A11, c11, rfl, hon, hbn⟩) | (refine (chalf_spec _ 11 _ ([t.proto % 256] ++ Cook.w4 t.src ++ Cook.h2 t.sport ++ Cook.w4 t.dst) t.dport W _ (by repeat (first | with_reducible exact hbn | with_reducible exact Below.refl W.heap.size W | with_reducible refine bel_al2 ?_ _ | with_reducible refine bel_dr2 ?_ | with_reducible refine bel_drN2 ?_ _)) (by repeat (first | with_reducible exact hon | exact own_one _ _ | with_reducible refine own_al2 ?_ _ | with_reducible refine own_dr2 ?_ | with_reducible refine own_drN2 ?_ _ | exact hon)) (by omega)).mono ?_; rintro e w12 ⟨A12, c12, rfl, hon, hbn⟩))
  clear K5
  obtain ⟨ew, hew, hew0, hew1⟩ : ∃ ew, IntKind.u32.wrap ep = ew ∧ 0 ≤ ew ∧ ew ≤ 4294967295 := ⟨_, rfl, by rw [IntKind.wrap_u32]; omega, by rw [IntKind.wrap_u32]; omega⟩
  have HEW : Hid (ew = ep % 4294967296) := Lib.hid (by rw [← hew, IntKind.wrap_u32])
  have HT : Hid (bs ([t.proto % 256] ++ Cook.w4 t.src ++ Cook.h2 t.sport ++ Cook.w4 t.dst ++ Cook.h2 t.dport ++ Cook.w4 sq ++ Cook.w4 ew) ++ bs [pl % 256] = bs (Cook.text t sq ep pl)) := Lib.hid (by rw [HEW.out]; exact (bs_append _ _).symm)
  clear HEW
  go_wp2_with (first | (with_reducible refine (cwhole_spec _ 13 _ ([t.proto % 256] ++ Cook.w4 t.src ++ Cook.h2 t.sport ++ Cook.w4 t.dst ++ Cook.h2 t.dport) sq W _ (by repeat (first | with_reducible exact hbn | with_reducible exact Below.refl W.heap.size W | with_reducible refine bel_al2 ?_ _ | with_reducible refine bel_dr2 ?_ | with_reducible refine bel_drN2 ?_ _)) (by repeat (first | with_reducible exact hon | exact own_one _ _ | with_reducible refine own_al2 ?_ _ | with_reducible refine own_dr2 ?_ | with_reducible refine own_drN2 ?_ _ | exact hon)) hs0 hs1 (by omega)).mono ?_; rintro e w13 ⟨A13, c13, rfl, hon, hbn⟩) | (with_reducible refine (cwhole_spec _ 17 _ ([t.proto % 256] ++ Cook.w4 t.src ++ Cook.h2 t.sport ++ Cook.w4 t.dst ++ Cook.h2 t.dport ++ Cook.w4 sq) ew W _ (by repeat (first | with_reducible exact hbn | with_reducible exact Below.refl W.heap.size W | with_reducible refine bel_al2 ?_ _ | with_reducible refine bel_dr2 ?_ | with_reducible refine bel_drN2 ?_ _)) (by repeat (first | with_reducible exact hon | exact own_one _ _ | with_reducible refine own_al2 ?_ _ | with_reducible refine own_dr2 ?_ | with_reducible refine own_drN2 ?_ _ | exact hon)) hew0 hew1 (by omega)).mono ?_; rintro e w14 ⟨A14, c14, rfl, hon, hbn⟩) | (at_builtin; refine wpList_app _ rfl (.tmp 32) (.tmp 35) 27 rfl W (by repeat (first | with_reducible exact hbn | with_reducible exact Below.refl W.heap.size W | with_reducible refine bel_al2 ?_ _ | with_reducible refine bel_dr2 ?_ | with_reducible refine bel_drN2 ?_ _)) 5 (.int .u8 0) 1 1 Tryd.underlying27 pad_info8 rfl (by decide) _ 21 (bs ([t.proto % 256] ++ Cook.w4 t.src ++ Cook.h2 t.sport ++ Cook.w4 t.dst ++ Cook.h2 t.dport ++ Cook.w4 sq ++ Cook.w4 ew)) rfl (by repeat (first | with_reducible exact hon | exact own_one _ _ | with_reducible refine own_al2 ?_ _ | with_reducible refine own_dr2 ?_ | with_reducible refine own_drN2 ?_ _ | exact hon)) (some ⟨_, 0, none⟩) 1 1 (bs [pl % 256]) rfl (by exact rd_one8 _ _) (one_bs _) (by unfold maxLen; omega) (by omega) ?_; intro A3 c3 w3 hown3 hb3 hg3 hat3))
  go_ret
  rw [HT.out] at hown3
  exact ⟨A3, c3, rfl, Rd.of_own hown3, bel_then hbW hb3⟩
end Go.Proofs.YtpidpbjbgjkaaaaDoor
