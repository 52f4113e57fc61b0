/- The walk of the cookie laws' awake; what is made is known. -/
import Derived.Test.YtdnboohhplnnhaaDoorCookCheck
import Derived.Test.YtdnboohhplnnhaaDoorCookRefC
import Derived.Lib.SlBytesConst
namespace Go.Proofs.YtdnboohhplnnhaaDoor
open Go.RowKit
set_option linter.unusedVariables false
namespace Cook
/-- a cookie of a key of the ring is known in its epoch and in the next one -/
theorem knows {ls : List (List Int)} {t : Tup} {sq ep : Int} {pl : Nat} {l : List Int} (h2 : ls.length ≤ 2) (hmem : l ∈ ls) (hp : pl ≤ 7) (he : 0 ≤ ep) : (may t ep = true → checkB ls t sq ep (one l t sq ep pl) = true ∧ checkN ls t sq ep (one l t sq ep pl) = sizeAt pl) ∧ (may t (ep + 1) = true → checkB ls t sq (ep + 1) (one l t sq ep pl) = true ∧ checkN ls t sq (ep + 1) (one l t sq ep pl) = sizeAt pl) := by
  refine ⟨fun hm => found hm h2 hmem hp ?_, fun hm => found hm h2 hmem hp ?_⟩
  · unfold kA; simp
  · unfold kA
    rw [show ep + 1 - 1 = ep by omega, decide_eq_true (show 0 < ep + 1 by omega)]
    simp
def fixT : Tup := ⟨6, 1, 2, 3, 4⟩
theorem fix : (may fixT 33 = true) ∧ (place 1460 = 7) ∧ (one [107] fixT 5 33 7 / 16777216 = 15) ∧ checkB [[107]] fixT 5 34 (one [107] fixT 5 33 7) = true ∧ checkN [[107]] fixT 5 34 (one [107] fixT 5 33 7) = 1460 := by
  have h0 : may fixT 33 = true := by decide
  have h1 : may fixT (33 + 1) = true := by decide
  have hk := (knows (ls := [[107]]) (t := fixT) (sq := 5) (ep := 33) (pl := 7) (l := [107]) (by simp) (by simp) (by omega) (by omega)).2 h1
  have hb := bits24 [107] (text fixT 5 33 7)
  exact ⟨h0, by decide, by unfold one; omega, hk.1, hk.2⟩
end Cook
theorem cook_k : isB [107] := by
  intro x hx
  simp only [List.mem_cons, List.not_mem_nil, or_false] at hx
  omega
theorem rd_mark1 (w : World) (T : TypeId) (l : List Int) (n : Nat) (fr : Nat × Nat) (hn : n = l.length) : Rd (w.alloc (.cells (bs l).toArray T fr)) 1 (some ⟨w.heap.size, 0, none⟩) n (bs l) := by
  subst hn
  refine ⟨by rw [bs_len, Nat.mul_one], fun _ => ⟨_, 0, rfl, by simp, fun j u hu => ?_⟩⟩
  rw [cell_of_row _ _ _ _ T fr (heap_alloc_new w _)]
  simpa using hu
set_option maxRecDepth 4000 in
set_option maxHeartbeats 4000000 in
theorem cook_awake (w : World) (hT : Tabs w) : Calls Tryd.prog 7 #[] w fun e w' => e = .returned (.bool true) ∧ Below w.heap.size w w' := by
  obtain ⟨w1, hw1⟩ : ∃ w1, w1 = w.alloc (.cells #[.int .i64 6, .int .u32 1, .int .i64 2, .int .u32 3, .int .i64 4] 25) := ⟨_, rfl⟩
  obtain ⟨w2, hw2⟩ : ∃ w2, w2 = w1.alloc (.cells #[.int .u8 107] 5 (1, 2)) := ⟨_, rfl⟩
  have hb1 : Below w.heap.size w w1 := by rw [hw1]; exact (Below.refl _ _).alloc (Nat.le_refl _) _
  have hb2 : Below w1.heap.size w1 w2 := by rw [hw2]; exact (Below.refl _ _).alloc (Nat.le_refl _) _
  have hb12 := bel_then hb1 hb2
  have BT : BlkV w1 w.heap.size 25 [.int .i64 6, .int .u32 1, .int .i64 2, .int .u32 3, .int .i64 4] := by rw [hw1]; exact BlkV.new _ _ _
  have l1 := BT.lt
  have K5 := Lib.hid (tup_c5 w1 Cook.fixT w.heap.size BT)
  have R2 : Rd w2 1 (some ⟨w1.heap.size, 0, none⟩) 1 (bs [107]) := by rw [hw2]; exact rd_mark1 w1 5 [107] 1 (1, 2) rfl
  have kc := fun (w : World) => Lib.run_convert_bytes_const (P := Tryd.prog) w 22 5 #[.int .u8 107] 1 1 Tryd.underlying22 Tryd.underlying5
  obtain ⟨f0, f1, f2, f3, f4⟩ := Cook.fix
  have hwf : Cook.fixT.wf := ⟨⟨by decide, by decide⟩, by decide, by decide⟩
  have HM := Lib.hid (cmake_spec (some ⟨w1.heap.size, 0, none⟩) 1 1 [107] Cook.fixT hwf 5 33 1460 (by omega) (by omega) w2 (hT.below hb12) R2 cook_k (by omega))
  rw [f0, f1] at HM
  simp only [if_true] at HM
  have hob := Cook.one_parts [107] Cook.fixT 5 33 (pl := 7) (by omega) (by omega)
  have HC : Hid (∀ (w5 : World) (A : Option Addr) (rs : List Mac.Key), Below w2.heap.size w2 w5 → rs.map (·.l) = [[107]] → Mac.Ring w5 A 1 rs → Calls Tryd.prog 16 #[.slice A 1 1, .agg #[.int .i64 6, .int .u32 1, .int .i64 2, .int .u32 3, .int .i64 4], .int .u32 5, .int .i64 34, .int .u32 (Cook.one [107] Cook.fixT 5 33 7)] w5 fun e w' => e = .returned (.tuple #[.int .i64 1460, .bool true]) ∧ Below w5.heap.size w5 w') := Lib.hid fun w5 A rs hb he hr => by
    have h := ccheck_spec A 1 1 rs Cook.fixT hwf 5 34 (Cook.one [107] Cook.fixT 5 33 7) (by omega) (by omega) hob.1 hob.2.1 w5 ((hT.below hb12).below hb) hr (by omega)
    rw [he, f3, f4] at h
    exact h
  have f2' : Cook.one [107] Cook.fixT 5 33 7 / 16777216 = 15 := f2
  clear f0 f1 f2 f3 f4 hob R2 hwf hT BT
  generalize Cook.one [107] Cook.fixT 5 33 7 = cc at HM HC f2'
  have HM' : Hid (Calls Tryd.prog 8 #[.slice (some ⟨w1.heap.size, 0, none⟩) 1 1, .agg #[.int .i64 6, .int .u32 1, .int .i64 2, .int .u32 3, .int .i64 4], .int .u32 5, .int .i64 33, .int .i64 1460] w2 fun e w' => e = .returned (.tuple #[.int .u32 cc, .int .i64 0]) ∧ Below w2.heap.size w2 w') := HM
  clear HM
  obtain ⟨a0, a1, a2, a3, a4⟩ := K5.out w1 (Below.refl _ _)
  simp only [Cook.fixT] at a0 a1 a2 a3 a4
  go_enter Tryd.func7, Tryd.ntmps7
  go_upto_region 2 with (fail)
  rw [← hw1]
  clear hw1
  go_wp2_with fail
  rw [← hw2]
  clear hw2
  refine HM'.out.mono ?_
  rintro e w3 ⟨rfl, hb3⟩
  clear HM'
  obtain ⟨b0, b1, b2, b3, b4⟩ := K5.out w3 (bel_then hb2 hb3)
  have l3 : w.heap.size < w3.heap.size := by have h1 := hb2.size; have h2 := hb3.size; omega
  have l3' : w.heap.size < w3.heap.size + 1 := by omega
  simp only [Cook.fixT] at b0 b1 b2 b3 b4
  go_wp2_with fail
  have RG : Mac.Ring ((w3.alloc (.cells #[.int .u8 107] 5 (1, 2))).alloc (.cells #[.slice (some ⟨w3.heap.size, 0, none⟩) 1 1] 22)) (some ⟨w3.heap.size + 1, 0, none⟩) 1 [⟨some ⟨w3.heap.size, 0, none⟩, 1, 1, [107]⟩] := by
    refine ⟨rfl, ?_, fun k hk => ?_⟩
    · have h := rd_one (w3.alloc (.cells #[.int .u8 107] 5 (1, 2))) 22 (.slice (some ⟨w3.heap.size, 0, none⟩) 1 1)
      rw [show (w3.alloc (.cells #[.int .u8 107] 5 (1, 2))).heap.size = w3.heap.size + 1 by simp] at h
      exact h
    · rw [List.mem_singleton] at hk
      subst hk
      exact ⟨(rd_mark1 w3 5 [107] 1 (1, 2) rfl).alloc _, cook_k, by show (1 : Nat) ≤ _; omega⟩
  refine (HC.out _ _ _ (bel_al2 (bel_al2 hb3 _) _) rfl RG).mono ?_
  rintro e w6 ⟨rfl, hb6⟩
  have hbF := bel_then (bel_then hb12 (bel_al2 (bel_al2 hb3 _) _)) hb6
  clear HC RG
  go_wp2_with fail
  go_ret
  exact ⟨rfl, hbF⟩
end Go.Proofs.YtdnboohhplnnhaaDoor
