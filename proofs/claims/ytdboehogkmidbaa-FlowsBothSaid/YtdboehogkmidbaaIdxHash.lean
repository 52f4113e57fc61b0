/- The walks of tuple.port, Right, side, raw and Hash. -/
import Derived.Test.YtdboehogkmidbaaIdxPlain
import Derived.Test.YtdboehogkmidbaaOwn
import Derived.Test.YtdboehogkmidbaaBlkV
import Derived.Test.YtdboehogkmidbaaBel
import Derived.Test.YtdboehogkmidbaaChecked
import Derived.Deep.RegionHeld3
import Derived.Deep.QuietTactic
import Derived.Deep.LoopGhost
import Derived.BigQuiet
import Derived.Deep.DeepCutAuto
namespace Go.Proofs.Ytdboehogkmidbaa
open Go.RowKit
set_option linter.unusedVariables false
section
variable {w : World} {base : Nat} {e : TypeId} {s n : Nat} {v : Value} {xs : List Value}
theorem own_al2 (h : w.ownsRow base e s v n xs) (o : Obj) : (w.alloc o).ownsRow base e s v n xs := h.alloc o
theorem own_dr2 (h : w.ownsRow base e s v n xs) : w.drew.ownsRow base e s v n xs := h
theorem own_drN2 (h : w.ownsRow base e s v n xs) (k : Nat) : (w.drewN k).ownsRow base e s v n xs := h
end
theorem own_one (w : World) (y : Int) : (w.alloc (.cells #[.int .u8 (IntKind.u8.wrap y)] 5)).ownsRow w.heap.size 5 1 (.slice (some ⟨w.heap.size, 0, none⟩) 1 1) 1 (bs [y % 256]) := by
  rw [← IntKind.wrap_u8]
  exact World.ownsRow_lit w #[.int .u8 (IntKind.u8.wrap y)] 1 (Nat.le_refl _) (by decide) rfl
theorem rd_new (w : World) (T : TypeId) (l : List Int) (n : Nat) (hn : n = l.length) : Rd (w.alloc (.cells (bs l).toArray T)) 1 (some ⟨w.heap.size, 0, none⟩) n (bs l) := by
  subst hn
  refine ⟨by rw [bs_len, Nat.mul_one], fun _ => ⟨_, 0, rfl, by simp, fun j u hu => ?_⟩⟩
  rw [cell_of_row _ _ _ _ T (0, 0) (heap_alloc_new w _)]
  simpa using hu
theorem bs_append (a b : List Int) : bs (a ++ b) = bs a ++ bs b := by simp [bs]
theorem info8 : (Try.prog.info? 5).map (fun i => (i.zero, i.size, i.bytes)) = some (some (.int .u8 0), 1, 1) := by kernel_rfl
def Idx.Key.wf (k : Idx.Key) : Prop := (0 ≤ k.sr ∧ k.sr ≤ 4294967295) ∧ 0 ≤ k.ds ∧ k.ds ≤ 4294967295
def Idx.six (a p : Int) : List Int := [a / 16777216, a / 65536 % 256, a / 256 % 256, a % 256, p / 256 % 256, p % 256]
theorem Idx.bytes_six {k : Idx.Key} (h : k.wf) : [k.pr % 256] ++ Idx.six k.sr k.sp ++ Idx.six k.ds k.dp = k.bytes := by
  obtain ⟨⟨h0, h1⟩, h2, h3⟩ := h
  unfold Idx.Key.bytes Idx.six
  rw [show k.sr / 16777216 % 256 = k.sr / 16777216 by omega, show k.ds / 16777216 % 256 = k.ds / 16777216 by omega]
  rfl
set_option maxRecDepth 8000 in
set_option maxHeartbeats 1000000 in
theorem tside_spec (A : Option Addr) (n c : Nat) (l : List Int) (a p : Int) (a0 w : World) (hbel : Below a0.heap.size a0 w) (hown : w.ownsRow a0.heap.size 5 1 (.slice A n c) n (bs l)) (hx0 : 0 ≤ a) (hx1 : a ≤ 4294967295) (hn : n ≤ 4294960000) :
    Calls Try.prog 44 #[.slice A n c, .int .u32 a, .int .i64 p] w fun e w' => ∃ A' c', e = .returned (.slice A' (n + 6) c') ∧ w'.ownsRow a0.heap.size 5 1 (.slice A' (n + 6) c') (n + 6) (bs (l ++ Idx.six a p)) ∧ Below a0.heap.size a0 w' := by
  have HO := Lib.hid hown
  have hbs := hbel.size
  have HW : Hid (bs l ++ bs (Idx.six a p) = bs (l ++ Idx.six a p)) := Lib.hid (bs_append _ _).symm
  clear hown
  go_enter Try.func44, Try.ntmps44
  go_wp2_with (at_builtin; refine wpList_app _ rfl (.tmp 7) (.tmp 24) 101 rfl a0 (by exact hbel.alloc hbs _) 5 (.int .u8 0) 1 1 Try.underlying101 info8 rfl (by decide) _ n (bs l) rfl (by exact own_below HO.out ((Below.refl _ _).alloc (Nat.le_refl _) _)) (some ⟨_, 0, none⟩) 6 6 (bs (Idx.six a p)) rfl (by exact rd_new _ _ (Idx.six a p) 6 rfl) (one_bs _) (by unfold maxLen; omega) (by omega) ?_; intro A3 c3 w3 hown3 hb3 hg3 hat3)
  go_ret
  rw [HW.out] at hown3
  exact ⟨A3, c3, rfl, hown3, hb3⟩
theorem key_c5 (w : World) (k : Idx.Key) (g : Nat) (h : BlkV w g 29 [.int .i64 k.pr, .int .u32 k.sr, .int .i64 k.sp, .int .u32 k.ds, .int .i64 k.dp]) (w' : World) (hb : Below w.heap.size w w') : w'.cell? ⟨g, 0, none⟩ = some (.int .i64 k.pr) ∧ w'.cell? ⟨g, 1, none⟩ = some (.int .u32 k.sr) ∧ w'.cell? ⟨g, 2, none⟩ = some (.int .i64 k.sp) ∧ w'.cell? ⟨g, 3, none⟩ = some (.int .u32 k.ds) ∧ w'.cell? ⟨g, 4, none⟩ = some (.int .i64 k.dp) :=
  ⟨(h.below hb).cell (i := 0) rfl, (h.below hb).cell (i := 1) rfl, (h.below hb).cell (i := 2) rfl, (h.below hb).cell (i := 3) rfl, (h.below hb).cell (i := 4) rfl⟩
set_option maxRecDepth 8000 in
set_option maxHeartbeats 4000000 in
theorem traw_spec (k : Idx.Key) (hw : k.wf) (w : World) :
    Calls Try.prog 43 #[.agg #[.int .i64 k.pr, .int .u32 k.sr, .int .i64 k.sp, .int .u32 k.ds, .int .i64 k.dp]] w fun e w' => ∃ A c, e = .returned (.slice A 13 c) ∧ Rd w' 1 A 13 (bs k.bytes) ∧ Below w.heap.size w w' := by
  obtain ⟨W, hW⟩ : ∃ W, W = w.alloc (.cells #[.int .i64 k.pr, .int .u32 k.sr, .int .i64 k.sp, .int .u32 k.ds, .int .i64 k.dp] 29) := ⟨_, rfl⟩
  have hbW : Below w.heap.size w W := by rw [hW]; exact (Below.refl _ _).alloc (Nat.le_refl _) _
  have K5 : Hid (∀ w' : World, Below W.heap.size W w' → w'.cell? ⟨w.heap.size, 0, none⟩ = some (.int .i64 k.pr) ∧ w'.cell? ⟨w.heap.size, 1, none⟩ = some (.int .u32 k.sr) ∧ w'.cell? ⟨w.heap.size, 2, none⟩ = some (.int .i64 k.sp) ∧ w'.cell? ⟨w.heap.size, 3, none⟩ = some (.int .u32 k.ds) ∧ w'.cell? ⟨w.heap.size, 4, none⟩ = some (.int .i64 k.dp)) := Lib.hid fun w' hb => key_c5 W k w.heap.size (by rw [hW]; exact BlkV.new _ _ _) w' hb
  have HB := Lib.hid (Idx.bytes_six hw)
  obtain ⟨⟨hs2, hs3⟩, hd2, hd3⟩ := hw
  go_enter Try.func43, Try.ntmps43
  go_upto_region 1 with (fail)
  rw [← hW]
  clear hW
  go_region_held3 (fun w' => w'.cell? ⟨w.heap.size, 0, none⟩ = some (.int .i64 k.pr) ∧ w'.cell? ⟨w.heap.size, 1, none⟩ = some (.int .u32 k.sr) ∧ w'.cell? ⟨w.heap.size, 2, none⟩ = some (.int .i64 k.sp) ∧ w'.cell? ⟨w.heap.size, 3, none⟩ = some (.int .u32 k.ds) ∧ w'.cell? ⟨w.heap.size, 4, none⟩ = some (.int .i64 k.dp)) (exact K5.out _ (by repeat (first | with_reducible exact hbn | with_reducible exact Below.refl W.heap.size W | with_reducible refine bel_al2 ?_ _ | with_reducible refine bel_dr2 ?_ | with_reducible refine bel_drN2 ?_ _)))
    (with_reducible first | (refine (tside_spec _ 1 _ [k.pr % 256] k.sr k.sp W _ (by repeat (first | with_reducible exact hbn | with_reducible exact Below.refl W.heap.size W | with_reducible refine bel_al2 ?_ _ | with_reducible refine bel_dr2 ?_ | with_reducible refine bel_drN2 ?_ _)) (by repeat (first | with_reducible exact hon | exact own_one _ _ | with_reducible refine own_al2 ?_ _ | with_reducible refine own_dr2 ?_ | with_reducible refine own_drN2 ?_ _ | exact hon)) hs2 hs3 (by omega)).mono ?_; rintro e w9 ⟨A9, c9, rfl, hon, hbn⟩) | (refine (tside_spec _ 7 _ ([k.pr % 256] ++ Idx.six k.sr k.sp) k.ds k.dp W _ (by repeat (first | with_reducible exact hbn | with_reducible exact Below.refl W.heap.size W | with_reducible refine bel_al2 ?_ _ | with_reducible refine bel_dr2 ?_ | with_reducible refine bel_drN2 ?_ _)) (by repeat (first | with_reducible exact hon | exact own_one _ _ | with_reducible refine own_al2 ?_ _ | with_reducible refine own_dr2 ?_ | with_reducible refine own_drN2 ?_ _ | exact hon)) hd2 hd3 (by omega)).mono ?_; rintro e w10 ⟨A10, c10, rfl, hon, hbn⟩))
  go_wp2_with fail
  go_ret
  rw [HB.out] at hon
  exact ⟨_, _, rfl, Rd.of_own hon, bel_then hbW (by repeat (first | with_reducible exact hbn | with_reducible exact Below.refl W.heap.size W | with_reducible refine bel_al2 ?_ _ | with_reducible refine bel_dr2 ?_ | with_reducible refine bel_drN2 ?_ _))⟩
theorem Idx.take_mix {l : List Int} {k : Nat} (h : k < l.length) (s : Int) : (l.take (k + 1)).foldl Idx.mix s = Idx.mix ((l.take k).foldl Idx.mix s) (l.getD k 0) := by
  rw [List.take_succ_eq_append_getElem h, List.foldl_append]
  simp [h]
theorem Idx.fold_bd (s : Int) (h0 : 0 ≤ s) (h1 : s ≤ 4294967295) : ∀ l : List Int, 0 ≤ l.foldl Idx.mix s ∧ l.foldl Idx.mix s ≤ 4294967295 := by
  intro l
  induction l generalizing s with
  | nil => exact ⟨h0, h1⟩
  | cons a t ih => exact ih _ (Idx.mix_bd s a).1 (by have := (Idx.mix_bd s a).2; omega)
theorem Idx.bytes_len (k : Idx.Key) : k.bytes.length = 13 := rfl
theorem Idx.bytes_isB {k : Idx.Key} : isB k.bytes := by
  intro x hx
  simp only [Idx.Key.bytes, List.mem_cons, List.not_mem_nil, or_false] at hx
  omega
set_option maxRecDepth 8000 in
set_option maxHeartbeats 4000000 in
theorem thash_spec (k : Idx.Key) (hw : k.wf) (w : World) :
    Calls Try.prog 40 #[.agg #[.int .i64 k.pr, .int .u32 k.sr, .int .i64 k.sp, .int .u32 k.ds, .int .i64 k.dp], .int .u32 0] w fun e w' => e = .returned (.int .u32 (Idx.hash k)) ∧ Below w.heap.size w w' := by
  obtain ⟨W, hW⟩ : ∃ W, W = w.alloc (.cells #[.int .i64 k.pr, .int .u32 k.sr, .int .i64 k.sp, .int .u32 k.ds, .int .i64 k.dp] 29) := ⟨_, rfl⟩
  have hbW : Below w.heap.size w W := by rw [hW]; exact (Below.refl _ _).alloc (Nat.le_refl _) _
  obtain ⟨c0, c1, c2, c3, c4⟩ := key_c5 W k w.heap.size (by rw [hW]; exact BlkV.new _ _ _) W (Below.refl _ _)
  obtain ⟨l, hl⟩ : ∃ l, l = k.bytes := ⟨_, rfl⟩
  have HR := Lib.hid (traw_spec k hw W)
  have hlen : l.length = 13 := by rw [hl]; rfl
  have hB : isB l := by rw [hl]; exact Idx.bytes_isB
  have HF : Hid (l.foldl Idx.mix 2166136261 = Idx.hash k) := Lib.hid (by rw [hl]; unfold Idx.hash; rfl)
  rw [← hl] at HR
  have HL := Lib.hid hlen
  clear hl hw hlen
  go_enter Try.func40, Try.ntmps40
  go_upto_region 2 with (fail)
  rw [← hW]
  clear hW
  go_wp2_with fail
  refine HR.out.mono ?_
  rintro e w2 ⟨A, c, rfl, hR, hb⟩
  have hb2 := bel_then hbW hb
  have HRd := Lib.hid hR
  clear hR hb c0 c1 c2 c3 c4 HR hbW
  go_wp2_with fail
  go_loop [5, 13] (fun h i => ∃ k : Nat, k ≤ 13 ∧ i = .int .i64 k ∧ h = .int .u32 ((l.take k).foldl Idx.mix 2166136261)) (fun _ i => 13 - (intOf i).toNat)
  case atStart => exact ⟨0, Nat.zero_le _, rfl, rfl⟩
  case round =>
    obtain ⟨k, hk, rfl, rfl⟩ := hrel
    have hbd := Idx.fold_bd 2166136261 (by decide) (by decide) (l.take k)
    by_cases hlt : k < 13
    · have hltz : (k : Int) < 13 := by omega
      have HT := Lib.hid (Idx.take_mix (l := l) (k := k) (by rw [HL.out]; exact hlt) 2166136261)
      obtain ⟨b, off, rfl, hbs, hc⟩ := HRd.out.byte hlt
      have hx := hB.getD k
      generalize l.getD k 0 = x at hc hx HT
      generalize (l.take k).foldl Idx.mix 2166136261 = h at hbd HT
      go_wp2
      go_round
      case rel => exact ⟨k + 1, by omega, by go_num, by rw [HT.out]; unfold Idx.mix; go_num⟩
      case measure => simp [intOf]; omega
    · have hltz : ¬ (k : Int) < 13 := by omega
      have HE : Hid ((l.take k).foldl Idx.mix 2166136261 = Idx.hash ‹Idx.Key›) := Lib.hid (by rw [List.take_of_length_le (by rw [HL.out]; omega)]; exact HF.out)
      go_wp2
      go_ret
      exact ⟨ret_int HE.out, hb2⟩
set_option maxRecDepth 8000 in
set_option maxHeartbeats 1000000 in
theorem tport_spec (n : Int) (w : World) : Calls Try.prog 27 #[.int .i64 n] w fun e w' => e = .returned (.bool (decide (0 ≤ n ∧ n ≤ 65535))) ∧ w = w' := by
  go_enter Try.func27, Try.ntmps27
  go_wp2
  all_goals
    go_ret
    exact ⟨ret_bool (by rw [Bool.eq_iff_iff]; simp <;> omega), rfl⟩
end Go.Proofs.Ytdboehogkmidbaa
