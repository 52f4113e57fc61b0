/- Strings out of bytes; the walk of bytes.Clone. -/
import Derived.Test.YtihhcalgjkkalaaChecked
import Derived.Test.YtihhcalgjkkalaaOwn
import Derived.Deep.QuietTactic
import Derived.BigQuiet
import Derived.Lib.BufferRead
namespace Go.Proofs.Ytihhcalgjkkalaa
open Go.RowKit
set_option linter.unusedVariables false
/-- What a call leaves that answers n bytes in a slice which it made or appended to: blocks from a0's size on. -/
def RetB (a0 : World) (e : TypeId) (n : Nat) (l : List Int) (en : Ending) (w' : World) : Prop :=
  ∃ A c, en = .returned (.slice A n c) ∧ w'.ownsRow a0.heap.size e 1 (.slice A n c) n (bs l) ∧ Below a0.heap.size a0 w'
theorem bytes_info8 : (Try.prog.info? 5).map (fun i => (i.zero, i.size, i.bytes)) = some (some (.int .u8 0), 1, 1) := by kernel_rfl
def strOf (l : List Int) : ByteArray := l.foldl (fun r n => r.push (UInt8.ofNat n.toNat)) ByteArray.empty
theorem strOf_toList (l : List Int) : ∀ r : ByteArray, (l.foldl (fun r n => r.push (UInt8.ofNat n.toNat)) r).data.toList = r.data.toList ++ l.map fun n => UInt8.ofNat n.toNat := by
  induction l with
  | nil => intro r; simp
  | cons x t ih =>
    intro r
    rw [List.foldl_cons, ih]
    simp [ByteArray.push]
theorem strOf_inj {a b : List Int} (ha : isB a) (hb : isB b) (h : strOf a = strOf b) : a = b := by
  have h1 := congrArg (fun s : ByteArray => s.data.toList) h
  simp only [strOf, strOf_toList] at h1
  have h2 : a.map (fun n => UInt8.ofNat n.toNat) = b.map fun n => UInt8.ofNat n.toNat := by simpa using h1
  have h3 : ∀ l : List Int, isB l → (l.map (fun n => UInt8.ofNat n.toNat)).map (fun u => (u.toNat : Int)) = l := by
    intro l hl
    rw [List.map_map]
    conv => rhs; rw [← List.map_id l]
    apply List.map_congr_left
    intro x hx
    have := hl x hx
    simp only [Function.comp, UInt8.toNat_ofNat', id]
    omega
  rw [← h3 a ha, h2, h3 b hb]
theorem strOf_eq {a b : List Int} (ha : isB a) (hb : isB b) : ((strOf a).toList == (strOf b).toList) = (a == b) := by
  rw [Bool.eq_iff_iff, beq_iff_eq, beq_iff_eq, ByteArray.toList_eq, ByteArray.toList_eq]
  refine ⟨fun h => strOf_inj ha hb ?_, fun h => by rw [h]⟩
  have h2 : (strOf a).data = (strOf b).data := by
    apply Array.toList_inj.1; exact h
  cases ha' : strOf a; cases hb' : strOf b
  rw [ha', hb'] at h2
  simp only at h2
  rw [h2]
section
variable {P : Program} (w : World)
theorem run_str_of_bytes (src dst e : TypeId) (hs : P.underlying src = some (.slice e)) (he : P.underlying e = some (.int .u8)) (hd : P.underlying dst = some .string) (A : Option Addr) (n c : Nat) (l : List Int)
    (h : Rd w 1 A n (bs l)) : (convert src dst (.slice A n c)).run P w = .ok (.string (strOf l)) w := by
  have hl := h.blen
  rw [run_convert_bytes_string w src dst e A n c hs he hd]
  rcases A with _ | ad
  · have hn : n = 0 := by
      rcases Nat.eq_zero_or_pos n with h0 | h0
      · exact h0
      · obtain ⟨b, off, h1, _⟩ := h.2 h0; cases h1
    subst hn
    obtain rfl : l = [] := List.eq_nil_of_length_eq_zero hl
    have := Lib.run_convert_nil_bytes (P := P) w src dst e c hs he hd
    rw [run_convert_bytes_string w src dst e none 0 c hs he hd] at this
    exact this
  · have hc : ∀ j v, (bs l)[j]? = some v → w.cell? (ad.add j) = some v := by
      intro j v hv
      rcases Nat.eq_zero_or_pos n with h0 | h0
      · subst h0
        obtain rfl : l = [] := List.eq_nil_of_length_eq_zero hl
        simp [bs] at hv
      · obtain ⟨b, off, h1, _, h2⟩ := h.2 h0
        injection h1 with h1
        subst h1
        rw [add_off]; exact h2 j v hv
    have hrun := run_loadCells_list (P := P) w ad (bs l) hc
    rw [bs_len, hl] at hrun
    exact run_bytesToString w ad n c l hrun
end
set_option maxHeartbeats 400000 in
theorem bytes_clone (A : Option Addr) (n c : Nat) (l : List Int) (w : World) (h : Rd w 1 A n (bs l)) (hn : n ≤ 140737488355328) :
    Calls Try.prog 32 #[.slice A n c] w (RetB w 5 n l) := by
  have q := fun (W : World) => Lib.run_eql_slice_nil (P := Try.prog) W 23 5 A n c 0 0 Try.underlying23
  rcases A with _ | ad
  · have hn0 : n = 0 := by
      rcases Nat.eq_zero_or_pos n with h0 | h0
      · exact h0
      · obtain ⟨b, off, h1, _⟩ := h.2 h0; cases h1
    subst hn0
    obtain rfl : l = [] := List.eq_nil_of_length_eq_zero h.blen
    clear h
    go_enter Try.func32, Try.ntmps32
    go_wp2
    go_ret
    exact ⟨none, 0, rfl, World.ownsRow_nil _ _ _ _, Below.refl _ _⟩
  · have h := Lib.hid h
    go_enter Try.func32, Try.ntmps32
    go_wp2_with (at_builtin; refine wpList_app0 _ rfl (.tmp 5) (.tmp 6) 23 rfl w (by exact Below.refl _ _) 5 (.int .u8 0) 1 1 Try.underlying23 bytes_info8 rfl (by decide) rfl (some ad) n c (bs l) rfl (by exact h.out) (one_bs _) (by unfold maxLen; omega) (by omega) ?_; intro A1 c1 w2 hown1 hbel1 hg1 hat1)
    go_ret
    exact ⟨A1, c1, rfl, hown1, hbel1⟩
end Go.Proofs.Ytihhcalgjkkalaa
