/- The walk of sha.Sum, sha.Bits. -/
import Derived.Test.YtpidpbjbgjkaaaaDoorShaPad
namespace Go.Proofs.YtpidpbjbgjkaaaaDoor
open Go.RowKit
set_option linter.unusedVariables false
/-- The tables of package sha lie in memory. -/
structure Tabs (w : World) : Prop where
  lt : 3 ≤ w.heap.size
  first : ∀ i, i < 8 → w.cell? ⟨0, i, none⟩ = some (.int .u32 ((Sha.vs Sha.first).getD i 0))
  rounds : ∀ i, i < 64 → w.cell? ⟨2, i, none⟩ = some (.int .u32 (Sha.rounds.getD i 0))
theorem Tabs.below {w w' : World} (h : Tabs w) (hb : Below w.heap.size w w') : Tabs w' := by
  have h3 := h.lt
  refine ⟨Nat.le_trans h3 hb.size, fun i hi => ?_, fun i hi => ?_⟩
  · exact (hb.cell (p := ⟨0, i, none⟩) (by show (0 : Nat) < _; omega)).trans (h.first i hi)
  · exact (hb.cell (p := ⟨2, i, none⟩) (by show (2 : Nat) < _; omega)).trans (h.rounds i hi)
/-- The reference's table lies in memory. -/
def TabK (w : World) : Prop := 3 ≤ w.heap.size ∧ ∀ i, i < 64 → w.cell? ⟨1, i, none⟩ = some (.int .u32 (Sha.rounds.getD i 0))
theorem TabK.below {w w' : World} (h : TabK w) (hb : Below w.heap.size w w') : TabK w' := by
  have h3 := h.1
  exact ⟨Nat.le_trans h3 hb.size, fun i hi => (hb.cell (p := ⟨1, i, none⟩) (by show (1 : Nat) < _; omega)).trans (h.2 i hi)⟩
theorem Sha.first_ok : Sha.first.ok := by
  unfold Sha.first
  exact ⟨by simp only; omega, by simp only; omega, by simp only; omega, by simp only; omega, by simp only; omega, by simp only; omega, by simp only; omega, by simp only; omega⟩
theorem Sha.V.ok.mix {v : Sha.V} (l : List Int) : (Sha.mix v l).ok := Sha.V.ok.add _ _
theorem Sha.V.ok.all {v : Sha.V} (h : v.ok) (p : List Int) (n : Nat) : (Sha.all v p n).ok := by
  cases n with
  | zero => exact h
  | succ n => exact Sha.V.ok.mix _
theorem bs_append (a b : List Int) : bs (a ++ b) = bs a ++ bs b := List.map_append
theorem Sha.bytes_take (V : Sha.V) (i : Nat) (hi : i < 8) : (Sha.bytes V).take (4 * (i + 1)) = (Sha.bytes V).take (4 * i) ++ Sha.word4 ((Sha.vs V).getD i 0) := by
  rcases (show i = 0 ∨ i = 1 ∨ i = 2 ∨ i = 3 ∨ i = 4 ∨ i = 5 ∨ i = 6 ∨ i = 7 by omega) with rfl | rfl | rfl | rfl | rfl | rfl | rfl | rfl <;> rfl
theorem Sha.vs_bd {V : Sha.V} (h : V.ok) (i : Nat) : 0 ≤ (Sha.vs V).getD i 0 ∧ (Sha.vs V).getD i 0 ≤ 4294967295 := by
  have : ∀ x ∈ Sha.vs V, 0 ≤ x ∧ x ≤ 4294967295 := by
    intro x hx
    simp only [Sha.vs, List.mem_cons, List.not_mem_nil, or_false] at hx
    rcases hx with rfl | rfl | rfl | rfl | rfl | rfl | rfl | rfl
    · exact h.a
    · exact h.b
    · exact h.c
    · exact h.d
    · exact h.e
    · exact h.f
    · exact h.g
    · exact h.h
  simpa using bd_get this (Int.le_refl 0) (by decide) i
theorem index8 (SA : Array Value) (i : Nat) (x : Value) (hi : i < 8) (hx : SA[i]? = some x) (w : World) : (Instr.index 113 (.agg SA) (.int .i64 (i : Int))).run Tryd.prog w = .ok x w := by
  have hu : Tryd.prog.underlying 113 = some (.array 8 23) := by kernel_rfl
  have hs : (sizeOf 23).run Tryd.prog w = .ok 1 w := by kernel_rfl
  simp [Instr.index, run_underlying hu, asIntOf, part, hs, hx]
  omega
theorem rd_new (w : World) (T : TypeId) (l : List Int) (n : Nat) (hn : n = l.length) : Rd (w.alloc (.cells (bs l).toArray T)) 1 (some ⟨w.heap.size, 0, none⟩) n (bs l) := by
  subst hn
  refine ⟨by rw [bs_len, Nat.mul_one], fun _ => ⟨_, 0, rfl, by simp, fun j u hu => ?_⟩⟩
  rw [cell_of_row _ _ _ _ T (0, 0) (heap_alloc_new w _)]
  simpa using hu
set_option maxRecDepth 4000 in
set_option maxHeartbeats 4000000 in
theorem sum_spec (A : Option Addr) (n c : Nat) (l : List Int) (w : World) (hT : Tabs w) (hR : Rd w 1 A n (bs l)) (hB : isB l) (hn : n ≤ 4294967295) :
    Calls Tryd.prog 72 #[.slice A n c] w fun e w' => ∃ A' c', e = .returned (.slice A' 32 c') ∧ w'.ownsRow w.heap.size 5 1 (.slice A' 32 c') 32 (bs (Sha.sum l)) ∧ Below w.heap.size w w' := by
  have h0 := hT.first 0 (by decide)
  have h1 := hT.first 1 (by decide)
  have h2 := hT.first 2 (by decide)
  have h3 := hT.first 3 (by decide)
  have h4 := hT.first 4 (by decide)
  have h5 := hT.first 5 (by decide)
  have h6 := hT.first 6 (by decide)
  have h7 := hT.first 7 (by decide)
  simp only [Sha.vs, Sha.first, List.getD_cons_zero, List.getD_cons_succ] at h0 h1 h2 h3 h4 h5 h6 h7
  obtain ⟨W, hW⟩ : ∃ W, W = w.alloc (.cells #[.int .u32 1779033703, .int .u32 3144134277, .int .u32 1013904242, .int .u32 2773480762, .int .u32 1359893119, .int .u32 2600822924, .int .u32 528734635, .int .u32 1541459225] 115) := ⟨_, rfl⟩
  have hbW : Below w.heap.size w W := by rw [hW]; exact (Below.refl _ _).alloc (Nat.le_refl _) _
  have hsW : W.heap.size = w.heap.size + 1 := by rw [hW]; simp
  have BH : BlkW W w.heap.size 115 (Sha.vs Sha.first) := by
    rw [hW]
    exact heap_alloc_new w _
  have HC := padded_spec A n c l W (hR.below hbW) hn
  rw [hsW] at HC
  have hl := hR.blen
  obtain ⟨K, hK⟩ : ∃ K, K = (n + 8) / 64 + 1 := ⟨_, rfl⟩
  have hKN : Sha.psize n = 64 * K := by rw [hK]; unfold Sha.psize; omega
  have hKb : K ≤ 67108865 := by rw [hK]; omega
  have HSUM : Hid (Sha.sum l = Sha.bytes (Sha.all Sha.first (Sha.pad l) K)) := Lib.hid (by rw [hK, ← hl]; rfl)
  have HPL : Hid ((Sha.pad l).length = 64 * K) := Lib.hid (by rw [Sha.pad_len, hl, hKN])
  have HPB : Hid (isB (Sha.pad l)) := Lib.hid (Sha.pad_isB hB)
  have HT := Lib.hid hT
  rw [hKN] at HC
  clear hl hK hKN hR hB hT
  go_enter Tryd.func72, Tryd.ntmps72
  go_wp2_with fail
  rw [← hW]
  clear h0 h1 h2 h3 h4 h5 h6 h7 hW
  refine HC.mono ?_
  rintro e w1 ⟨rfl, BP, hb1⟩
  have BH1 : BlkW w1 w.heap.size 115 (Sha.vs (Sha.all Sha.first (Sha.pad l) 0)) := BH.below (hsW ▸ hb1)
  have hbw : Below w.heap.size w w1 := hbW.trans (hb1.mono (by omega))
  clear HC BH hbW hb1 hsW
  go_wp2_with fail
  go_loopg [4] K (fun g s4 wx => ∃ (k : Nat) (A' : Option Addr) (r : Nat), k + g = K ∧ r + 64 * k = 64 * K ∧ s4 = .slice A' r r ∧ Hid (k < K → A' = some ⟨w.heap.size + 1, 64 * k, none⟩) ∧ Below w.heap.size w wx ∧ BlkW wx w.heap.size 115 (Sha.vs (Sha.all Sha.first (Sha.pad l) k)) ∧ BlkB wx (w.heap.size + 1) 5 (Sha.pad l))
  case atStart => exact ⟨0, _, 64 * K, by omega, by omega, rfl, Lib.hid (fun _ => rfl), hbw, BH1, BP⟩
  case round =>
    obtain ⟨k, A', r, hkg, hr, rfl, HA, hbx, BHx, BPx⟩ := hrel
    clear hbw BH1 BP
    cases gk with
    | zero =>
      obtain rfl : k = K := by omega
      obtain rfl : r = 0 := by omega
      have hV := Sha.first_ok.all (Sha.pad l) k
      generalize Sha.all Sha.first (Sha.pad l) k = V at HSUM BHx hV
      obtain ⟨a0, a1, a2, a3, a4, a5, a6, a7⟩ := BHx.eight
      have hlt := BHx.lt
      clear BHx BPx HA
      go_wp2_with fail
      obtain ⟨SA, hSA⟩ : ∃ SA, SA = #[Value.int .u32 V.a, .int .u32 V.b, .int .u32 V.c, .int .u32 V.d, .int .u32 V.e, .int .u32 V.f, .int .u32 V.g, .int .u32 V.h] := ⟨_, rfl⟩
      rw [← hSA]
      have HSA : Hid (∀ i, i < 8 → SA[i]? = some (.int .u32 ((Sha.vs V).getD i 0))) := Lib.hid (by
        intro i hi
        rw [hSA]
        rcases (show i = 0 ∨ i = 1 ∨ i = 2 ∨ i = 3 ∨ i = 4 ∨ i = 5 ∨ i = 6 ∨ i = 7 by omega) with rfl | rfl | rfl | rfl | rfl | rfl | rfl | rfl <;> rfl)
      have HV := Lib.hid hV
      clear hSA a0 a1 a2 a3 a4 a5 a6 a7 hV
      go_loopg [5, 26] 8 (fun g s5 s26 wx => ∃ (i : Nat) (A2 : Option Addr) (c2 : Nat), i + g = 8 ∧ s26 = .int .i64 i ∧ s5 = .slice A2 (4 * i) c2 ∧ wx.ownsRow w.heap.size 5 1 (.slice A2 (4 * i) c2) (4 * i) (bs ((Sha.bytes V).take (4 * i))) ∧ Below w.heap.size w wx)
      case atStart => exact ⟨0, none, 0, by omega, rfl, rfl, World.ownsRow_nil _ _ _ _, hbx⟩
      case round =>
        obtain ⟨i, A2, c2, hig, rfl, rfl, hown, hby⟩ := hrel
        clear hbx
        cases gk with
        | zero =>
          obtain rfl : i = 8 := by omega
          have HO := Lib.hid hown
          clear hown
          go_wp2_with fail
          go_ret
          refine ⟨A2, c2, rfl, ?_, hby⟩
          have := HO.out
          rw [HSUM.out]
          exact this
        | succ g =>
          have hi : i < 8 := by omega
          have hiz : (i : Int) < 8 := by omega
          have hix := index8 SA i _ hi (HSA.out i hi)
          have HBT := Lib.hid (Sha.bytes_take V i hi)
          obtain ⟨hx0, hx1⟩ := Sha.vs_bd HV.out i
          generalize (Sha.vs V).getD i 0 = x at hix HBT hx0 hx1
          have HO := Lib.hid hown
          have k0 : x / 16777216 % 256 = x / 16777216 := by omega
          have hby' := hby.size
          clear hown
          go_wp2_with (at_builtin; refine wpList_app _ rfl (.tmp 29) (.tmp 41) 27 rfl w (by exact hby.alloc hby' _) 5 (.int .u8 0) 1 1 Tryd.underlying27 pad_info8 rfl (by decide) _ (4 * i) (bs ((Sha.bytes V).take (4 * i))) rfl (by exact HO.out.alloc _) (some ⟨_, 0, none⟩) 4 4 (bs (Sha.word4 x)) rfl (by exact rd_new _ _ (Sha.word4 x) 4 rfl) (one_bs _) (by unfold maxLen; omega) (by omega) ?_; intro A3 c3 w3 hown3 hb3 hg3 hat3)
          go_roundg g
          case measure => omega
          case rel => exact ⟨i + 1, A3, c3, by omega, rfl, rfl, by rw [← bs_append, ← HBT.out] at hown3; exact hown3, hb3⟩
    | succ g =>
      obtain rfl := HA.out (by omega)
      have hr0 : (0 : Int) < (r : Int) := by omega
      have hr64 : (64 : Int) ≤ (r : Int) := by omega
      have hrN : 64 ≤ r := by omega
      have HM := fun w' hg hk => mix_spec w.heap.size (Sha.all Sha.first (Sha.pad l) k) (w.heap.size + 1) (64 * k) r (((Sha.pad l).drop (64 * k)).take 64) wr (Sha.first_ok.all _ _) BHx (BPx.rd (64 * k) 64 (by rw [HPL.out]; omega)) w' hg hk
      have hTx := HT.out.below hbx
      have HMM := HM (fun x hx => HPB.out x (List.mem_of_mem_drop (List.mem_of_mem_take hx))) hTx.lt hTx.rounds
      have BB := Lib.hid BPx
      clear HM BHx BPx hTx HA
      go_wp2_with fail
      refine HMM.mono ?_
      rintro e w2 ⟨rfl, hO, BH2⟩
      have hb2 := hO.below hbx (Nat.le_refl _) hbx.size
      have BP2 : BlkB w2 (w.heap.size + 1) 5 (Sha.pad l) := (hO.block _ BB.out.lt (by omega)).trans BB.out
      clear HMM hO BB hbx
      go_wp2_with fail
      all_goals
        go_roundg g
        case measure => omega
        case rel => exact ⟨k + 1, _, _, by omega, by omega, rfl, Lib.hid (fun h => by first | (exfalso; omega) | rw [show 64 * (k + 1) = 64 * k + 64 by omega]), hb2, BH2, BP2⟩
end Go.Proofs.YtpidpbjbgjkaaaaDoor
