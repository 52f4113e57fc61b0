/- The walk of index.Put. -/
import Derived.Test.YtdboehogkmidbaaIdxOps
namespace Go.Proofs.Ytdboehogkmidbaa
open Go.RowKit
set_option linter.unusedVariables false
theorem cell_size {n : Nat} (h : n = 7) : (Try.prog.info? 82).map (·.size) = some n := by rw [h]; kernel_rfl
def TabRet (w : World) (n : Nat) (r : List Idx.Cell × Int) (e : Ending) (w' : World) : Prop := ∃ A' c', e = .returned (.tuple #[.slice A' n c', .int .i64 r.2]) ∧ TabR w' A' n r.1 ∧ Below w.heap.size w w'
def TabNew (w : World) (n : Nat) (r : List Idx.Cell × Int) (e : Ending) (w' : World) : Prop := ∃ A' c', e = .returned (.tuple #[.slice A' n c', .int .i64 r.2]) ∧ TabR w' A' n r.1 ∧ Below w.heap.size w w' ∧ ∀ a, A' = some a → w.heap.size ≤ a.block ∧ ∃ vs, BlkV w' a.block 82 vs
theorem tabRet_of {w w1 w' : World} {n c' : Nat} {A' : Option Addr} {l : List Idx.Cell} {err : Int} {r : List Idx.Cell × Int} (hr : r = (l, err)) (hown : w1.ownsRow w.heap.size 82 7 (.slice A' n c') n (tcells l)) (hl : l.length = n) (hwf : ∀ c ∈ l, c.k.wf) (hb1 : Below w.heap.size w w1) (hb : Below w1.heap.size w1 w') :
    TabNew w n r (.returned (.tuple #[.slice A' n c', .int .i64 err])) w' := by
  subst hr
  refine ⟨A', c', rfl, ⟨hl, hwf, (Rd.of_own hown).below hb⟩, bel_then hb1 hb, fun a ha => ?_⟩
  subst ha
  refine ⟨(hown.lt a.block rfl).1, ?_⟩
  rcases hown.2 with ⟨hv, _⟩ | ⟨g, cap, cur, hv, _, hg, _⟩
  · cases hv
  · injection hv with hA
    injection hA with hA
    subst hA
    have hB : BlkV w1 g 82 cur.toList := by unfold BlkV; simpa using hg
    exact ⟨_, hB.below hb⟩
theorem Idx.put_a {l : List Idx.Cell} {k : Idx.Key} {x : Int} (h : Idx.Right l = false) : Idx.put l k x = (l, 1) := by unfold Idx.put; rw [h]; rfl
theorem Idx.put_b {l : List Idx.Cell} {k : Idx.Key} {x : Int} (h : Idx.right k = false) : Idx.put l k x = (l, 1) := by unfold Idx.put; rw [h]; simp
theorem Idx.put_c {l : List Idx.Cell} {k : Idx.Key} {x : Int} {p : Nat} (h : Idx.Right l = true) (h2 : Idx.right k = true) (hf : Idx.fnd l k = some p) (hu : (Idx.at' l p).u = true) : Idx.put l k x = (l, 10) := by unfold Idx.put; rw [h, h2, hf]; simp [hu]
theorem Idx.put_d {l : List Idx.Cell} {k : Idx.Key} {x : Int} {p : Nat} (h : Idx.Right l = true) (h2 : Idx.right k = true) (hf : Idx.fnd l k = some p) (hu : (Idx.at' l p).u = false) (hm : Idx.many l + 1 = l.length) : Idx.put l k x = (l, 8) := by unfold Idx.put; rw [h, h2, hf]; simp [hu, hm]
theorem Idx.put_e {l : List Idx.Cell} {k : Idx.Key} {x : Int} {p : Nat} (h : Idx.Right l = true) (h2 : Idx.right k = true) (hf : Idx.fnd l k = some p) (hu : (Idx.at' l p).u = false) (hm : Idx.many l + 1 ≠ l.length) : Idx.put l k x = (l.set p ⟨true, k, x⟩, 0) := by unfold Idx.put; rw [h, h2, hf]; simp [hu, hm]
set_option maxRecDepth 8000 in
set_option maxHeartbeats 8000000 in
theorem put_spec2 (A : Option Addr) (n c : Nat) (l : List Idx.Cell) (k : Idx.Key) (x : Int) (w : World) (hT : TabR w A n l) (hk : k.wf) (hn : n ≤ 1000000) :
    Calls Try.prog 19 #[.slice A n c, .agg #[.int .i64 k.pr, .int .u32 k.sr, .int .i64 k.sp, .int .u32 k.ds, .int .i64 k.dp], .int .i64 x] w (TabNew w n (Idx.put l k x)) := by
  obtain ⟨W, hW⟩ : ∃ W, W = w.alloc (.cells #[.int .i64 k.pr, .int .u32 k.sr, .int .i64 k.sp, .int .u32 k.ds, .int .i64 k.dp] 29) := ⟨_, rfl⟩
  have hbW : Below w.heap.size w W := by rw [hW]; exact (Below.refl _ _).alloc (Nat.le_refl _) _
  have K5 : Hid (∀ w' : World, Below W.heap.size W w' → w'.cell? ⟨w.heap.size, 0, none⟩ = some (.int .i64 k.pr) ∧ w'.cell? ⟨w.heap.size, 1, none⟩ = some (.int .u32 k.sr) ∧ w'.cell? ⟨w.heap.size, 2, none⟩ = some (.int .i64 k.sp) ∧ w'.cell? ⟨w.heap.size, 3, none⟩ = some (.int .u32 k.ds) ∧ w'.cell? ⟨w.heap.size, 4, none⟩ = some (.int .i64 k.dp)) := Lib.hid fun w' hb => key_c5 W k w.heap.size (by rw [hW]; exact BlkV.new _ _ _) w' hb
  have HT := Lib.hid (hT.below hbW)
  have hl := Lib.hid hT.len
  have HWF := Lib.hid hT.wf
  have HC := Lib.hid (clone_spec A n c l W HT.out hn)
  have hpl : ∀ p, Idx.fnd l k = some p → p < n := fun p h => by rw [← hT.len]; exact (Idx.ends_of_fnd h).1
  clear hT
  have HBW := Lib.hid hbW
  go_enter Try.func19, Try.ntmps19
  go_upto_region 1 with (fail)
  rw [← hW]
  clear hW hbW
  go_wp2_with fail
  refine HC.out.mono ?_
  rintro e w1 ⟨A1, c1, rfl, hown, hb1⟩
  have HO : Hid (w1.ownsRow w.heap.size 82 7 (.slice A1 n c1) n (tcells l)) := Lib.hid (own_weak hown HBW.out.size)
  have HB1 := Lib.hid (bel_then HBW.out hb1)
  have HR := Lib.hid (iright_spec A n c l w1 (HT.out.below hb1) (by omega))
  have HT1 := Lib.hid (HT.out.below hb1)
  have K5' : Hid (∀ w' : World, Below w1.heap.size w1 w' → w'.cell? ⟨w.heap.size, 0, none⟩ = some (.int .i64 k.pr) ∧ w'.cell? ⟨w.heap.size, 1, none⟩ = some (.int .u32 k.sr) ∧ w'.cell? ⟨w.heap.size, 2, none⟩ = some (.int .i64 k.sp) ∧ w'.cell? ⟨w.heap.size, 3, none⟩ = some (.int .u32 k.ds) ∧ w'.cell? ⟨w.heap.size, 4, none⟩ = some (.int .i64 k.dp)) := Lib.hid fun w' hb => K5.out w' (bel_then hb1 hb)
  clear hown hb1 HC HBW HT K5
  cases hr : Idx.Right l
  · have HG := Lib.hid (Idx.put_a (k := k) (x := x) hr)
    rw [hr] at HR
    clear hr
    go_wp2_with fail
    refine HR.out.mono ?_
    rintro e w2 ⟨rfl, hb2⟩
    go_wp2_with fail
    go_ret2
    exact tabRet_of HG.out HO.out hl.out HWF.out HB1.out hb2
  · have HRI := Lib.hid hr
    have hG := Idx.right_iff.1 hr
    obtain ⟨p, hp⟩ := hG.found k
    have hpn := hpl p hp
    have hs := hG.size
    rw [hl.out] at hs
    have HN := Lib.hid hs
    have HF := Lib.hid hp
    have hm2 := hG.room
    rw [hl.out] at hm2
    rw [hr] at HR
    clear hr hs hp hG hpl
    go_wp2_with fail
    refine HR.out.mono ?_
    rintro e w2 ⟨rfl, hb2⟩
    have HB2 := Lib.hid hb2
    obtain ⟨d0, d1, d2, d3, d4⟩ := K5'.out w2 hb2
    have HTR := Lib.hid (tright_spec k w2)
    clear hb2 HR
    cases hq : Idx.right k
    · have HG := Lib.hid (Idx.put_b (l := l) (x := x) hq)
      rw [hq] at HTR
      clear hq
      go_wp2_with fail
      refine HTR.out.mono ?_
      rintro e w3 ⟨rfl, hb3⟩
      have HB3 := Lib.hid (bel_then HB2.out hb3)
      clear hb3
      go_wp2_with fail
      go_ret2
      exact tabRet_of HG.out HO.out hl.out HWF.out HB1.out HB3.out
    · have HRK := Lib.hid hq
      rw [hq] at HTR
      clear hq
      go_wp2_with fail
      refine HTR.out.mono ?_
      rintro e w3 ⟨rfl, hb3⟩
      have HB3 := Lib.hid (bel_then HB2.out hb3)
      clear hb3 HTR HB2 d0 d1 d2 d3 d4
      obtain ⟨d0, d1, d2, d3, d4⟩ := K5'.out w3 HB3.out
      have HT3 := Lib.hid (HT1.out.below HB3.out)
      have HFS := Lib.hid (find_spec A n c l k p w3 HT3.out hk HN.out HF.out)
      go_wp2_with fail
      refine HFS.out.mono ?_
      rintro e w4 ⟨rfl, hb4⟩
      have HB4 := Lib.hid (bel_then HB3.out hb4)
      clear hb4 HFS HB3 d0 d1 d2 d3 d4
      have HT4 := Lib.hid (HT1.out.below HB4.out)
      clear HT3 HT1
      cases hu : (Idx.at' l p).u
      · have HU := Lib.hid hu
        clear hu
        have HL := Lib.hid (len_spec A n c l w4 HT4.out (by omega))
        by_cases hm : Idx.many l + 1 = n
        · have HG := Lib.hid (Idx.put_d (x := x) HRI.out HRK.out HF.out HU.out (by rw [hl.out]; exact hm))
          have hmz : (Idx.many l : Int) = (n : Int) - 1 := by omega
          rw [hmz] at HL
          clear hm hmz
          go_wp2_with fail
          refine HL.out.mono ?_
          rintro e w5 ⟨rfl, hb5⟩
          have HB5 := Lib.hid (bel_then HB4.out hb5)
          clear hb5
          go_wp2_with fail
          go_ret2
          exact tabRet_of HG.out HO.out hl.out HWF.out HB1.out HB5.out
        · have HG := Lib.hid (Idx.put_e (x := x) HRI.out HRK.out HF.out HU.out (by rw [hl.out]; exact hm))
          have hmz : ((Idx.many l : Int) == (n : Int) - 1) = false := by simpa using (by omega : (Idx.many l : Int) ≠ (n : Int) - 1)
          clear hm
          generalize Idx.many l = m at *
          have hpz : (p : Int) < (n : Int) := by omega
          obtain ⟨g, rest, rfl, hgb, hTO⟩ := TabO.of_own HO.out (by omega) hl.out HWF.out
          have HTO := Lib.hid hTO
          have HGB := Lib.hid hgb
          clear hTO hgb
          go_wp2_with fail
          refine HL.out.mono ?_
          rintro e w5 ⟨rfl, hb5⟩
          have HB5 := Lib.hid (bel_then HB4.out hb5)
          clear hb5 HL HB4
          obtain ⟨d0, d1, d2, d3, d4⟩ := K5'.out w5 HB5.out
          have HTO5 := Lib.hid (HTO.out.below HB5.out)
          obtain ⟨⟨f0, f1, f2, f3, f4, f5, f6⟩, g0, g1, g2, g3, g4, g5, g6⟩ := HTO5.out.facts hpn
          go_wp2_with fail
          go_ret2
          obtain ⟨h1, h2⟩ := HTO5.out.store hpn ⟨true, k, x⟩ hk
          rw [HG.out]
          exact ⟨_, _, rfl, h1.rd, h2.bel HGB.out (bel_then HB1.out HB5.out), fun a ha => by injection ha with ha; subst ha; exact ⟨HGB.out, _, h1.blk⟩⟩
      · have HG := Lib.hid (Idx.put_c (x := x) HRI.out HRK.out HF.out hu)
        clear hu
        go_wp2_with fail
        go_ret2
        exact tabRet_of HG.out HO.out hl.out HWF.out HB1.out HB4.out
theorem put_spec (A : Option Addr) (n c : Nat) (l : List Idx.Cell) (k : Idx.Key) (x : Int) (w : World) (hT : TabR w A n l) (hk : k.wf) (hn : n ≤ 1000000) :
    Calls Try.prog 19 #[.slice A n c, .agg #[.int .i64 k.pr, .int .u32 k.sr, .int .i64 k.sp, .int .u32 k.ds, .int .i64 k.dp], .int .i64 x] w (TabRet w n (Idx.put l k x)) :=
  (put_spec2 A n c l k x w hT hk hn).mono fun _ _ ⟨A', c', h1, h2, h3, _⟩ => ⟨A', c', h1, h2, h3⟩
end Go.Proofs.Ytdboehogkmidbaa
