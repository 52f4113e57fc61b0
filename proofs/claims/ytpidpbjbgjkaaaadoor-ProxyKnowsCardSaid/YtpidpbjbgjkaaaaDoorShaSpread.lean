/- The walk of sha.spread. -/
import Derived.Test.YtpidpbjbgjkaaaaDoorShaFns
import Derived.Deep.RegionHeld3
import Derived.StillTailTactics
import Derived.Lib.SmallJoins
import Derived.Deep.LoopGhost
import Derived.Deep.DeepCutAuto
import Derived.BigQuiet
import Derived.BigRegion
import Derived.Laws.CopyOwn
namespace Go.Proofs.YtpidpbjbgjkaaaaDoor
open Go.RowKit
set_option linter.unusedVariables false
/-- a block of u32 cells, known whole -/
def BlkW (w : World) (g : Nat) (T : TypeId) (l : List Int) : Prop := w.heap[g]? = some (.cells (l.map (Value.int .u32)).toArray T (0, 0))
theorem BlkW.lt {w : World} {g : Nat} {T : TypeId} {l : List Int} (h : BlkW w g T l) : g < w.heap.size := (Array.getElem?_eq_some_iff.1 h).1
theorem BlkW.below {w w' : World} {g : Nat} {T : TypeId} {l : List Int} (h : BlkW w g T l) (hb : Below w.heap.size w w') : BlkW w' g T l := (hb.block g h.lt).trans h
theorem BlkW.cell {w : World} {g : Nat} {T : TypeId} {l : List Int} (h : BlkW w g T l) {i : Nat} (hi : i < l.length) : w.cell? ⟨g, i, none⟩ = some (.int .u32 (l.getD i 0)) := by
  rw [cell_of_row _ _ i _ T (0, 0) h]
  simp [hi]
theorem BlkW.unfrozen {w : World} {g : Nat} {T : TypeId} {l : List Int} (h : BlkW w g T l) (i : Nat) : w.frozen? ⟨g, i, none⟩ = false := frozen_of_row _ _ _ _ T h
theorem BlkW.put {w : World} {g : Nat} {T : TypeId} {l : List Int} (h : BlkW w g T l) (i : Nat) (v : Int) : BlkW (w.setCell ⟨g, i, none⟩ (.int .u32 v)) g T (l.set i v) := by
  unfold BlkW at h ⊢
  rw [Go.Joins.block_setCell h]
  simp [List.map_set]
namespace Sha
theorem u32_or {a b : Int} (j : Nat) (ha : ∃ k : Nat, a = k * 2 ^ j ∧ k * 2 ^ j < 2 ^ 32) (hb0 : 0 ≤ b) (hb : b < 2 ^ j) (hb32 : b < 4294967296) : bits .or .u32 a b = a + b := by
  obtain ⟨k, rfl, hk⟩ := ha
  obtain ⟨y, rfl⟩ := Int.eq_ofNat_of_zero_le hb0
  have hy : y < 2 ^ j := by exact_mod_cast hb
  have e : ((k : Int) * 2 ^ j) = ((k * 2 ^ j : Nat) : Int) := by push_cast; rfl
  rw [e, u32_or_nat _ _ hk (by omega), nat_or _ _ _ hy]
  push_cast
  rfl
theorem word_or {a b c d : Int} (a0 : 0 ≤ a) (a1 : a ≤ 255) (b0 : 0 ≤ b) (b1 : b ≤ 255) (c0 : 0 ≤ c) (c1 : c ≤ 255) (d0 : 0 ≤ d) (d1 : d ≤ 255) :
    bits .or .u32 (bits .or .u32 (bits .or .u32 (a * 16777216) (b * 65536)) (c * 256)) d = ((a * 256 + b) * 256 + c) * 256 + d := by
  have e1 : bits .or .u32 (a * 16777216) (b * 65536) = a * 16777216 + b * 65536 := u32_or 24 ⟨a.toNat, by omega, by omega⟩ (by omega) (by omega) (by omega)
  have e2 : bits .or .u32 (a * 16777216 + b * 65536) (c * 256) = a * 16777216 + b * 65536 + c * 256 := u32_or 16 ⟨(a * 256 + b).toNat, by omega, by omega⟩ (by omega) (by omega) (by omega)
  have e3 : bits .or .u32 (a * 16777216 + b * 65536 + c * 256) d = a * 16777216 + b * 65536 + c * 256 + d := u32_or 8 ⟨((a * 256 + b) * 256 + c).toNat, by omega, by omega⟩ (by omega) (by omega) (by omega)
  rw [e1, e2, e3]
  omega
theorem wordAt_bd {l : List Int} (h : isB l) (i : Nat) : 0 ≤ wordAt l i ∧ wordAt l i ≤ 4294967295 := by
  have h0 := h.getD (4 * i)
  have h1 := h.getD (4 * i + 1)
  have h2 := h.getD (4 * i + 2)
  have h3 := h.getD (4 * i + 3)
  unfold wordAt
  omega
theorem sched_len (w : List Int) (n : Nat) : (sched w n).length = w.length + n := by
  induction n with
  | zero => rfl
  | succ n ih => rw [sched, List.length_append, ih]; rfl
theorem words_len (l : List Int) : (words l).length = 16 := by simp [words]
theorem sched_bd {w : List Int} (h : ∀ x ∈ w, 0 ≤ x ∧ x ≤ 4294967295) (n : Nat) : ∀ x ∈ sched w n, 0 ≤ x ∧ x ≤ 4294967295 := by
  induction n with
  | zero => exact h
  | succ n ih =>
    intro x hx
    rw [sched] at hx
    rcases List.mem_append.1 hx with hx | hx
    · exact ih x hx
    · rw [List.mem_singleton] at hx
      omega
theorem words_bd {l : List Int} (h : isB l) : ∀ x ∈ words l, 0 ≤ x ∧ x ≤ 4294967295 := by
  intro x hx
  simp only [words, List.mem_map, List.mem_range] at hx
  obtain ⟨i, _, rfl⟩ := hx
  exact wordAt_bd h i
theorem fill_set {l : List Int} {n i : Nat} {v : Int} (hv : l[i]? = some v) (hn : i < n) : (l.take i ++ List.replicate (n - i) 0).set i v = l.take (i + 1) ++ List.replicate (n - (i + 1)) 0 := by
  obtain ⟨hi, hv'⟩ := List.getElem?_eq_some_iff.1 hv
  have e : n - i = (n - (i + 1)) + 1 := by omega
  rw [List.set_append_right _ _ (by simp; omega), e, List.replicate_succ, List.length_take, Nat.min_eq_left (by omega), Nat.sub_self, List.set_cons_zero, List.take_add_one, hv]
  simp
theorem push_set (s : List Int) {n i : Nat} {v : Int} (hs : s.length = i) (hn : 0 < n) : (s ++ List.replicate n 0).set i v = (s ++ [v]) ++ List.replicate (n - 1) 0 := by
  have e : n = (n - 1) + 1 := by omega
  rw [List.set_append_right _ _ (by omega), e, List.replicate_succ, hs, Nat.sub_self, List.set_cons_zero]
  simp
theorem getD_app (s t : List Int) {i : Nat} (h : i < s.length) : (s ++ t).getD i 0 = s.getD i 0 := by
  simp [List.getElem?_append_left h]
end Sha
theorem BlkW.fit {w : World} {g : Nat} {T : TypeId} {l m : List Int} (h : BlkW w g T l) (e : l = m) : BlkW w g T m := e ▸ h
theorem BlkW.other {w : World} {g : Nat} {T : TypeId} {l : List Int} (h : BlkW w g T l) {a : Addr} (ha : a.block ≠ g) (v : Value) : BlkW (w.setCell a v) g T l := (Go.heap_setCell_other w a g v (Ne.symm ha)).trans h
theorem BlkW.drewN {w : World} {g : Nat} {T : TypeId} {l : List Int} (h : BlkW w g T l) (k : Nat) : BlkW (w.drewN k) g T l := h
theorem Below.drewNs {B : Nat} {a w : World} (h : Below B a w) (k : Nat) : Below B a (w.drewN k) := ⟨h.os, h.tape, h.output, h.size, h.block⟩
set_option maxRecDepth 8000 in
set_option maxHeartbeats 4000000 in
theorem spread_spec (b off c : Nat) (l : List Int) (w : World) (hR : Rd w 1 (some ⟨b, off, none⟩) 64 (bs l)) (hB : isB l) :
    Calls Tryd.prog 87 #[.slice (some ⟨b, off, none⟩) 64 c] w fun e w' => e = .returned (.agg ((Sha.sched (Sha.words l) 48).map (Value.int .u32)).toArray) ∧ Below w.heap.size w w' := by
  obtain ⟨W, hW⟩ : ∃ W, W = (w.alloc (.cells #[.int .u32 0, .int .u32 0, .int .u32 0, .int .u32 0, .int .u32 0, .int .u32 0, .int .u32 0, .int .u32 0, .int .u32 0, .int .u32 0, .int .u32 0, .int .u32 0, .int .u32 0, .int .u32 0, .int .u32 0, .int .u32 0, .int .u32 0, .int .u32 0, .int .u32 0, .int .u32 0, .int .u32 0, .int .u32 0, .int .u32 0, .int .u32 0, .int .u32 0, .int .u32 0, .int .u32 0, .int .u32 0, .int .u32 0, .int .u32 0, .int .u32 0, .int .u32 0, .int .u32 0, .int .u32 0, .int .u32 0, .int .u32 0, .int .u32 0, .int .u32 0, .int .u32 0, .int .u32 0, .int .u32 0, .int .u32 0, .int .u32 0, .int .u32 0, .int .u32 0, .int .u32 0, .int .u32 0, .int .u32 0, .int .u32 0, .int .u32 0, .int .u32 0, .int .u32 0, .int .u32 0, .int .u32 0, .int .u32 0, .int .u32 0, .int .u32 0, .int .u32 0, .int .u32 0, .int .u32 0, .int .u32 0, .int .u32 0, .int .u32 0, .int .u32 0] 120)).alloc (.cells #[.int .u32 0, .int .u32 0, .int .u32 0, .int .u32 0, .int .u32 0, .int .u32 0, .int .u32 0, .int .u32 0, .int .u32 0, .int .u32 0, .int .u32 0, .int .u32 0, .int .u32 0, .int .u32 0, .int .u32 0, .int .u32 0, .int .u32 0, .int .u32 0, .int .u32 0, .int .u32 0, .int .u32 0, .int .u32 0, .int .u32 0, .int .u32 0, .int .u32 0, .int .u32 0, .int .u32 0, .int .u32 0, .int .u32 0, .int .u32 0, .int .u32 0, .int .u32 0, .int .u32 0, .int .u32 0, .int .u32 0, .int .u32 0, .int .u32 0, .int .u32 0, .int .u32 0, .int .u32 0, .int .u32 0, .int .u32 0, .int .u32 0, .int .u32 0, .int .u32 0, .int .u32 0, .int .u32 0, .int .u32 0, .int .u32 0, .int .u32 0, .int .u32 0, .int .u32 0, .int .u32 0, .int .u32 0, .int .u32 0, .int .u32 0, .int .u32 0, .int .u32 0, .int .u32 0, .int .u32 0, .int .u32 0, .int .u32 0, .int .u32 0, .int .u32 0] 120) := ⟨_, rfl⟩
  have hbW : Below w.heap.size w W := by rw [hW]; exact ((Below.refl _ _).alloc (Nat.le_refl _) _).alloc (by simp) _
  have B0 : BlkW W w.heap.size 120 (List.replicate 64 0) := by
    rw [hW]
    exact (Below.heap_alloc _ _ _ (by simp)).trans (heap_alloc_new w _)
  have B1 : BlkW W (w.heap.size + 1) 120 (List.replicate 64 0) := by
    rw [hW]
    have := heap_alloc_new (w.alloc (.cells #[.int .u32 0, .int .u32 0, .int .u32 0, .int .u32 0, .int .u32 0, .int .u32 0, .int .u32 0, .int .u32 0, .int .u32 0, .int .u32 0, .int .u32 0, .int .u32 0, .int .u32 0, .int .u32 0, .int .u32 0, .int .u32 0, .int .u32 0, .int .u32 0, .int .u32 0, .int .u32 0, .int .u32 0, .int .u32 0, .int .u32 0, .int .u32 0, .int .u32 0, .int .u32 0, .int .u32 0, .int .u32 0, .int .u32 0, .int .u32 0, .int .u32 0, .int .u32 0, .int .u32 0, .int .u32 0, .int .u32 0, .int .u32 0, .int .u32 0, .int .u32 0, .int .u32 0, .int .u32 0, .int .u32 0, .int .u32 0, .int .u32 0, .int .u32 0, .int .u32 0, .int .u32 0, .int .u32 0, .int .u32 0, .int .u32 0, .int .u32 0, .int .u32 0, .int .u32 0, .int .u32 0, .int .u32 0, .int .u32 0, .int .u32 0, .int .u32 0, .int .u32 0, .int .u32 0, .int .u32 0, .int .u32 0, .int .u32 0, .int .u32 0, .int .u32 0] 120)) (.cells #[.int .u32 0, .int .u32 0, .int .u32 0, .int .u32 0, .int .u32 0, .int .u32 0, .int .u32 0, .int .u32 0, .int .u32 0, .int .u32 0, .int .u32 0, .int .u32 0, .int .u32 0, .int .u32 0, .int .u32 0, .int .u32 0, .int .u32 0, .int .u32 0, .int .u32 0, .int .u32 0, .int .u32 0, .int .u32 0, .int .u32 0, .int .u32 0, .int .u32 0, .int .u32 0, .int .u32 0, .int .u32 0, .int .u32 0, .int .u32 0, .int .u32 0, .int .u32 0, .int .u32 0, .int .u32 0, .int .u32 0, .int .u32 0, .int .u32 0, .int .u32 0, .int .u32 0, .int .u32 0, .int .u32 0, .int .u32 0, .int .u32 0, .int .u32 0, .int .u32 0, .int .u32 0, .int .u32 0, .int .u32 0, .int .u32 0, .int .u32 0, .int .u32 0, .int .u32 0, .int .u32 0, .int .u32 0, .int .u32 0, .int .u32 0, .int .u32 0, .int .u32 0, .int .u32 0, .int .u32 0, .int .u32 0, .int .u32 0, .int .u32 0, .int .u32 0] 120)
    have e : (w.alloc (.cells #[.int .u32 0, .int .u32 0, .int .u32 0, .int .u32 0, .int .u32 0, .int .u32 0, .int .u32 0, .int .u32 0, .int .u32 0, .int .u32 0, .int .u32 0, .int .u32 0, .int .u32 0, .int .u32 0, .int .u32 0, .int .u32 0, .int .u32 0, .int .u32 0, .int .u32 0, .int .u32 0, .int .u32 0, .int .u32 0, .int .u32 0, .int .u32 0, .int .u32 0, .int .u32 0, .int .u32 0, .int .u32 0, .int .u32 0, .int .u32 0, .int .u32 0, .int .u32 0, .int .u32 0, .int .u32 0, .int .u32 0, .int .u32 0, .int .u32 0, .int .u32 0, .int .u32 0, .int .u32 0, .int .u32 0, .int .u32 0, .int .u32 0, .int .u32 0, .int .u32 0, .int .u32 0, .int .u32 0, .int .u32 0, .int .u32 0, .int .u32 0, .int .u32 0, .int .u32 0, .int .u32 0, .int .u32 0, .int .u32 0, .int .u32 0, .int .u32 0, .int .u32 0, .int .u32 0, .int .u32 0, .int .u32 0, .int .u32 0, .int .u32 0, .int .u32 0] 120)).heap.size = w.heap.size + 1 := by simp
    rwa [e] at this
  have hfar : b < w.heap.size := by
    obtain ⟨b', off', e, hb, hc⟩ := hR.2 (by omega)
    injection e with e
    injection e with e1 e2
    omega
  have hne : ¬ (w.heap.size + 1 = b) := by omega
  have HC : Hid (∀ wx, Below w.heap.size w wx → ∀ k, k < 64 → wx.cell? ⟨b, off + k, none⟩ = some (.int .u8 (l.getD k 0))) := Lib.hid (by
    intro wx hb k hk
    obtain ⟨b', off', e, hb', hc⟩ := (hR.below hb).byte hk
    injection e with e
    injection e with e1 e2
    rw [e1, e2]
    exact hc)
  have hBB := Lib.hid hB
  clear hR hB
  go_enter Tryd.func87, Tryd.ntmps87
  go_wp2_with fail
  rw [← hW]
  clear hW
  go_loopg [8] 16 (fun g s8 wx => ∃ i : Nat, i + g = 16 ∧ s8 = .int .i64 i ∧ Below w.heap.size w wx ∧ BlkW wx w.heap.size 120 (List.replicate 64 0) ∧ BlkW wx (w.heap.size + 1) 120 ((Sha.words l).take i ++ List.replicate (64 - i) 0))
  case atStart => exact ⟨0, by omega, rfl, hbW, B0, by simpa using B1⟩
  case round =>
    obtain ⟨i, hig, rfl, hbx, B0x, B1x⟩ := hrel
    clear hbW B0 B1
    cases gk with
    | zero =>
      obtain rfl : i = 16 := by omega
      have B1y : BlkW wr (w.heap.size + 1) 120 (Sha.sched (Sha.words l) 0 ++ List.replicate (48 - 0) 0) := B1x.fit (by rw [List.take_of_length_le (by rw [Sha.words_len]; exact Nat.le_refl _)]; rfl)
      clear B1x
      go_wp2_with fail
      go_loopg [5] 48 (fun g s5 wx => ∃ k : Nat, k + g = 48 ∧ s5 = .int .i64 ((16 + k : Nat) : Int) ∧ Below w.heap.size w wx ∧ BlkW wx w.heap.size 120 (List.replicate 64 0) ∧ BlkW wx (w.heap.size + 1) 120 (Sha.sched (Sha.words l) k ++ List.replicate (48 - k) 0))
      case atStart => exact ⟨0, by omega, rfl, hbx, B0x, B1y⟩
      case round =>
        obtain ⟨k, hkg, rfl, hbz, B0z, B1z⟩ := hrel
        clear hbx B0x B1y
        cases gk with
        | zero =>
          obtain rfl : k = 48 := by omega
          have B1w := B1z.fit (List.append_nil _)
          clear B1z
          obtain ⟨SS, hSS⟩ : ∃ SS, SS = (Sha.sched (Sha.words l) 48) := ⟨_, rfl⟩
          have hsl : SS.length = 64 := by rw [hSS, Sha.sched_len, Sha.words_len]
          rw [← hSS] at B1w
          have HSS := Lib.hid hSS
          clear hSS
          have hi0 : (Tryd.prog.info? 120).map (·.size) = some 64 := by kernel_rfl
          obtain ⟨SA, hSA⟩ : ∃ SA, SA = (SS.map (Value.int .u32)).toArray := ⟨_, rfl⟩
          have hsz : SA.size = 64 := by rw [hSA]; simp [hsl]
          unfold BlkW at B1w
          rw [← hSA] at B1w
          have hone : SA.all (·.oneCell') = true := by
            rw [Array.all_eq_true_iff_forall_mem]
            intro x hx
            rw [hSA] at hx
            simp only [List.mem_toArray, List.mem_map] at hx
            obtain ⟨y, _, rfl⟩ := hx
            rfl
          have HU : Hid (Tryd.prog.underlying 120 = some (.array 64 23)) := Lib.hid (by kernel_rfl)
          have HIS : Hid ((Tryd.prog.info? 120).map (·.size) = some SA.size) := Lib.hid (by rw [hsz]; exact hi0)
          have HOLD : Hid ((((List.replicate 64 (0 : Int)).map (Value.int .u32)).toArray).size = SA.size) := Lib.hid (by rw [hsz]; simp)
          have HONE := Lib.hid hone
          have HSA := Lib.hid hSA
          clear hi0 hsz hone hSA hsl
          unfold BlkW at B0z
          generalize ((List.replicate 64 (0 : Int)).map (Value.int .u32)).toArray = ZA at B0z HOLD
          have BB0 := Lib.hid B0z
          have BB1 := Lib.hid B1w
          clear B0z B1w
          go_upto_region 12 with fail
          refine wp_region_lit ?_
          refine wpList_load_row rfl _ _ rfl (w.heap.size + 1) rfl _ _ (0, 0) _ BB1.out HU.out rfl HIS.out ?_
          refine wpList_plain rfl fun _ hK => wp_store_row _ _ _ rfl w.heap.size _ rfl rfl _ _ BB0.out HIS.out HOLD.out HONE.out (hK _ _ ?_)
          go_wp2_with fail
          refine bodyPost_ret (v := .agg SA) (results_cell_row rfl _ _ w.heap.size _ _ (0, 0) _ rfl (setRow_heap _ _ _ _ _ _ BB0.out) HU.out rfl HIS.out) rfl ⟨by rw [HSA.out, HSS.out], below_setRow hbz (Nat.le_refl _) _⟩
        | succ g =>
          have hk : k < 48 := by omega
          obtain ⟨j, hj⟩ : ∃ j, j = 16 + k := ⟨_, rfl⟩
          rw [← hj]
          obtain ⟨q0, hq0⟩ : ∃ q, q = k := ⟨_, rfl⟩
          obtain ⟨q1, hq1⟩ : ∃ q, q = k + 1 := ⟨_, rfl⟩
          obtain ⟨q9, hq9⟩ : ∃ q, q = k + 9 := ⟨_, rfl⟩
          obtain ⟨q14, hq14⟩ : ∃ q, q = k + 14 := ⟨_, rfl⟩
          have hjz : (j : Int) < 64 := by omega
          have nj0 : ¬ j = q0 := by omega
          have nj9 : ¬ j = q9 := by omega
          have w1 : IntKind.i64.wrap ((j : Int) - 15) = (q1 : Int) := by rw [IntWalk.i64_in _ (by omega)]; omega
          have w14 : IntKind.i64.wrap ((j : Int) - 2) = (q14 : Int) := by rw [IntWalk.i64_in _ (by omega)]; omega
          have w0 : IntKind.i64.wrap ((j : Int) - 16) = (q0 : Int) := by rw [IntWalk.i64_in _ (by omega)]; omega
          have w9 : IntKind.i64.wrap ((j : Int) - 7) = (q9 : Int) := by rw [IntWalk.i64_in _ (by omega)]; omega
          have u0 : (q0 : Int) < 64 := by omega
          have u1 : (q1 : Int) < 64 := by omega
          have u9 : (q9 : Int) < 64 := by omega
          have u14 : (q14 : Int) < 64 := by omega
          have hlen : (Sha.sched (Sha.words l) k).length = 16 + k := by rw [Sha.sched_len, Sha.words_len]
          have hlen2 : (Sha.sched (Sha.words l) k ++ List.replicate (48 - k) 0).length = 64 := by simp [hlen]; omega
          have hbd := Sha.sched_bd (Sha.words_bd hBB.out) k
          have c0 := B1z.cell (i := q0) (by omega)
          have c1 := B1z.cell (i := q1) (by omega)
          have c9 := B1z.cell (i := q9) (by omega)
          have c14 := B1z.cell (i := q14) (by omega)
          have cj := B1z.cell (i := j) (by omega)
          rw [Sha.getD_app _ _ (by omega)] at c0 c1 c9 c14
          generalize (Sha.sched (Sha.words l) k ++ List.replicate (48 - k) 0).getD j 0 = old at cj
          obtain ⟨x0, hx0⟩ : ∃ x, x = (Sha.sched (Sha.words l) k).getD q0 0 := ⟨_, rfl⟩
          obtain ⟨x1, hx1⟩ : ∃ x, x = (Sha.sched (Sha.words l) k).getD q1 0 := ⟨_, rfl⟩
          obtain ⟨x9, hx9⟩ : ∃ x, x = (Sha.sched (Sha.words l) k).getD q9 0 := ⟨_, rfl⟩
          obtain ⟨x14, hx14⟩ : ∃ x, x = (Sha.sched (Sha.words l) k).getD q14 0 := ⟨_, rfl⟩
          have HB : ∀ q, 0 ≤ (Sha.sched (Sha.words l) k).getD q 0 ∧ (Sha.sched (Sha.words l) k).getD q 0 ≤ 4294967295 := fun q => by simpa using bd_get hbd (Int.le_refl 0) (by decide) q
          have d0 := HB q0
          have d1 := HB q1
          have d9 := HB q9
          have d14 := HB q14
          rw [← hx0] at c0 d0
          rw [← hx1] at c1 d1
          rw [← hx9] at c9 d9
          rw [← hx14] at c14 d14
          obtain ⟨d0l, d0u⟩ := d0
          obtain ⟨d1l, d1u⟩ := d1
          obtain ⟨d9l, d9u⟩ := d9
          obtain ⟨d14l, d14u⟩ := d14
          have hz := B1z.unfrozen j
          have hlt := B1z.lt
          have HS : Hid (Sha.sched (Sha.words l) (k + 1) = Sha.sched (Sha.words l) k ++ [(((x0 + x9) % 4294967296 + Sha.s0 x1) % 4294967296 + Sha.s1 x14) % 4294967296]) := Lib.hid (by
            have e : (((x0 + x9) % 4294967296 + Sha.s0 x1) % 4294967296 + Sha.s1 x14) % 4294967296 = (x0 + x9 + Sha.s0 x1 + Sha.s1 x14) % 4294967296 := by omega
            rw [e, hx0, hx1, hx9, hx14, hq0, hq1, hq9, hq14]; rfl)
          have HJ := Lib.hid hj
          have HLEN := Lib.hid hlen
          have BB0 := Lib.hid B0z
          have BB1 := Lib.hid B1z
          have T7 := Lib.hid fun w => turn_7 x1 w d1l d1u
          have T18 := Lib.hid fun w => turn_18 x1 w d1l d1u
          have T17 := Lib.hid fun w => turn_17 x14 w d14l d14u
          have T19 := Lib.hid fun w => turn_19 x14 w d14l d14u
          clear hj hq0 hq1 hq9 hq14 hx0 hx1 hx9 hx14 hlen hlen2 hbd HB B0z B1z
          go_wp2_with fail
          go_quiet (fail)
          go_wp2_with fail
          go_region_held3 (fun w' => w'.cell? ⟨w.heap.size + 1, q0, none⟩ = some (.int .u32 x0) ∧ w'.cell? ⟨w.heap.size + 1, q9, none⟩ = some (.int .u32 x9)) (simp [*, World.cell?_setCell_other]) ((with_reducible first | (refine (T7.out _).mono ?_; rintro e w' ⟨rfl, rfl⟩) | (refine (T18.out _).mono ?_; rintro e w' ⟨rfl, rfl⟩) | (refine (T17.out _).mono ?_; rintro e w' ⟨rfl, rfl⟩) | (refine (T19.out _).mono ?_; rintro e w' ⟨rfl, rfl⟩)))
          all_goals
            go_wp2_with fail
            go_roundg g
            case measure => omega
            case rel =>
              refine ⟨k + 1, by omega, ?_, (Below.drewNs hbz _).setCell (by simp) _, (BB0.out.drewN _).other (by simp) _, ((BB1.out.drewN _).put j _).fit ?_⟩
              · have := HJ.out
                exact val_int (by omega)
              · rw [HS.out, Sha.push_set _ (by rw [HLEN.out, HJ.out]) (by omega)]; rfl
    | succ g =>
      have hi : i < 16 := by omega
      have hiz : (i : Int) < 16 := by omega
      obtain ⟨x0, hx0⟩ : ∃ x, x = l.getD (4 * i) 0 := ⟨_, rfl⟩
      obtain ⟨x1, hx1⟩ : ∃ x, x = l.getD (4 * i + 1) 0 := ⟨_, rfl⟩
      obtain ⟨x2, hx2⟩ : ∃ x, x = l.getD (4 * i + 2) 0 := ⟨_, rfl⟩
      obtain ⟨x3, hx3⟩ : ∃ x, x = l.getD (4 * i + 3) 0 := ⟨_, rfl⟩
      obtain ⟨q0, hq0⟩ : ∃ q, q = 4 * i := ⟨_, rfl⟩
      obtain ⟨q1, hq1⟩ : ∃ q, q = 4 * i + 1 := ⟨_, rfl⟩
      obtain ⟨q2, hq2⟩ : ∃ q, q = 4 * i + 2 := ⟨_, rfl⟩
      obtain ⟨q3, hq3⟩ : ∃ q, q = 4 * i + 3 := ⟨_, rfl⟩
      have c0 := HC.out wr hbx (4 * i) (by omega)
      have c1 := HC.out wr hbx (4 * i + 1) (by omega)
      have c2 := HC.out wr hbx (4 * i + 2) (by omega)
      have c3 := HC.out wr hbx (4 * i + 3) (by omega)
      rw [← hx0, ← hq0] at c0
      rw [← hx1, ← hq1] at c1
      rw [← hx2, ← hq2] at c2
      rw [← hx3, ← hq3] at c3
      have w0 : IntKind.i64.wrap (4 * (i : Int)) = (q0 : Int) := by rw [IntWalk.i64_in _ (by omega)]; omega
      have w1 : IntKind.i64.wrap ((q0 : Int) + 1) = (q1 : Int) := by rw [IntWalk.i64_in _ (by omega)]; omega
      have w2 : IntKind.i64.wrap ((q0 : Int) + 2) = (q2 : Int) := by rw [IntWalk.i64_in _ (by omega)]; omega
      have w3 : IntKind.i64.wrap ((q0 : Int) + 3) = (q3 : Int) := by rw [IntWalk.i64_in _ (by omega)]; omega
      have u0 : (q0 : Int) < 64 := by omega
      have u1 : (q1 : Int) < 64 := by omega
      have u2 : (q2 : Int) < 64 := by omega
      have u3 : (q3 : Int) < 64 := by omega
      have u64 : (i : Int) < 64 := by omega
      clear hq0 hq1 hq2 hq3
      have b0 : 0 ≤ x0 ∧ x0 ≤ 255 := hx0 ▸ hBB.out.getD _
      have b1 : 0 ≤ x1 ∧ x1 ≤ 255 := hx1 ▸ hBB.out.getD _
      have b2 : 0 ≤ x2 ∧ x2 ≤ 255 := hx2 ▸ hBB.out.getD _
      have b3 : 0 ≤ x3 ∧ x3 ≤ 255 := hx3 ▸ hBB.out.getD _
      obtain ⟨b0l, b0u⟩ := b0
      obtain ⟨b1l, b1u⟩ := b1
      obtain ⟨b2l, b2u⟩ := b2
      obtain ⟨b3l, b3u⟩ := b3
      have hz := B1x.unfrozen i
      have hlt := B1x.lt
      have hcell := B1x.cell (i := i) (by simp [Sha.words]; omega)
      generalize (List.take i (Sha.words l) ++ List.replicate (64 - i) 0).getD i 0 = old at hcell
      have hor : bits .or .u32 (bits .or .u32 (bits .or .u32 (x0 * 16777216) (x1 * 65536)) (x2 * 256)) x3 = Sha.wordAt l i := by
        rw [Sha.word_or b0l b0u b1l b1u b2l b2u b3l b3u, hx0, hx1, hx2, hx3]; rfl
      have HV : Hid ((Sha.words l)[i]? = some (Sha.wordAt l i)) := Lib.hid (by simp [Sha.words, hi])
      generalize Sha.wordAt l i = v at hor HV
      have k0 : IntKind.u32.wrap x0 = x0 := by rw [IntKind.wrap_u32]; omega
      have k1 : IntKind.u32.wrap x1 = x1 := by rw [IntKind.wrap_u32]; omega
      have k2 : IntKind.u32.wrap x2 = x2 := by rw [IntKind.wrap_u32]; omega
      have k3 : IntKind.u32.wrap x3 = x3 := by rw [IntKind.wrap_u32]; omega
      have m0 : IntKind.u32.wrap (x0 * 16777216) = x0 * 16777216 := by rw [IntKind.wrap_u32]; omega
      have m1 : IntKind.u32.wrap (x1 * 65536) = x1 * 65536 := by rw [IntKind.wrap_u32]; omega
      have m2 : IntKind.u32.wrap (x2 * 256) = x2 * 256 := by rw [IntKind.wrap_u32]; omega
      clear hx0 hx1 hx2 hx3
      have BB0 := Lib.hid B0x
      have BB1 := Lib.hid B1x
      clear B0x B1x
      go_wp2_with fail
      go_region_held3 (fun w' => w'.cell? ⟨b, off + q0, none⟩ = some (.int .u8 x0) ∧ w'.cell? ⟨b, off + q1, none⟩ = some (.int .u8 x1) ∧ w'.cell? ⟨b, off + q2, none⟩ = some (.int .u8 x2) ∧ w'.cell? ⟨b, off + q3, none⟩ = some (.int .u8 x3)) (go_keep) (fail)
      all_goals
        go_wp2_with fail
        go_roundg g
        case measure => omega
        case rel => exact ⟨i + 1, by omega, rfl, (Below.drewNs hbx _).setCell (by simp) _, (BB0.out.drewN _).other (by simp) _, (BB1.out.drewN _ |>.put i v).fit (Sha.fill_set HV.out (by omega))⟩
end Go.Proofs.YtpidpbjbgjkaaaaDoor
