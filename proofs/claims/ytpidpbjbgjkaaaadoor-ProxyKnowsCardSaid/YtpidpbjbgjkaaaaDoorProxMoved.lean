/- The walk of casemateref24.moved: four bytes further on, in new memory. -/
import Derived.Test.YtpidpbjbgjkaaaaDoorProxMask
namespace Go.Proofs.YtpidpbjbgjkaaaaDoor
open Go.RowKit
set_option maxRecDepth 8000
set_option linter.unusedVariables false
set_option linter.unusedSimpArgs false
namespace Prox
def pre (f : Nat → Int) : Nat → Int
  | 0 => 0
  | n + 1 => pre f n * 256 + f n
theorem pre_le {f : Nat → Int} (hf : ∀ i, 0 ≤ f i ∧ f i ≤ 255) : ∀ i, i ≤ 3 → 0 ≤ pre f i ∧ pre f i ≤ 16777215 := fun i hi => by
  have h0 := hf 0
  have h1 := hf 1
  have h2 := hf 2
  match i, hi with
  | 0, _ => simp [pre]
  | 1, _ => simp only [pre]; omega
  | 2, _ => simp only [pre]; omega
  | 3, _ => simp only [pre]; omega
def low (y : Int) : Nat → Int
  | 0 => y
  | d + 1 => low y d / 256
theorem low_le {y : Int} (h0 : 0 ≤ y) (h1 : y ≤ 4294967295) : ∀ d, 0 ≤ low y d ∧ low y d ≤ 4294967295
  | 0 => ⟨h0, h1⟩
  | d + 1 => by
    have := low_le h0 h1 d
    simp only [low]
    omega
def lst (l : List Int) (a : Nat) (y : Int) : Nat → List Int
  | 0 => l
  | d + 1 => (lst l a y d).set (a + (3 - d)) (low y d % 256)
theorem lst_len (l : List Int) (a : Nat) (y : Int) : ∀ d, (lst l a y d).length = l.length
  | 0 => rfl
  | d + 1 => by simp [lst, lst_len l a y d]
theorem lst_isB {l : List Int} (h : isB l) (a : Nat) (y : Int) : ∀ d, isB (lst l a y d)
  | 0 => h
  | d + 1 => by
    intro x hx
    rcases List.mem_or_eq_of_mem_set hx with h1 | h1
    · exact lst_isB h a y d x h1
    · omega
theorem lst_four (l : List Int) (a : Nat) (y : Int) : lst l a y 4 = ((((l.set a (y / 16777216 % 256)).set (a + 1) (y / 65536 % 256)).set (a + 2) (y / 256 % 256)).set (a + 3) (y % 256)) := by
  have e1 : low y 1 = y / 256 := rfl
  have e2 : low y 2 = y / 65536 := by simp only [low]; omega
  have e3 : low y 3 = y / 16777216 := by simp only [low]; omega
  simp only [lst, e1, e2, e3, show low y 0 = y from rfl, Nat.sub_zero, Nat.sub_self, Nat.add_zero]
  apply List.ext_getElem?
  intro j
  simp only [List.getElem?_set, List.length_set]
  repeat' split
  all_goals first | rfl | omega
theorem pre_four {f : Nat → Int} : pre f 4 = word (f 0) (f 1) (f 2) (f 3) := by
  simp only [pre, word]
  omega
end Prox
theorem mov_info8 : (Tryd.prog.info? 5).map (fun i => (i.zero, i.size, i.bytes)) = some (some (.int .u8 0), 1, 1) := by kernel_rfl
set_option maxHeartbeats 4000000 in
theorem rmoved_spec (A : Option Addr) (N cap a : Nat) (l : List Int) (m : Int) (w : World) (hr : Rd w 1 A N (bs l)) (hB : isB l) (ha : a + 4 ≤ N) (hN : N ≤ 4294967295) (hm0 : 0 ≤ m) (hm1 : m ≤ 4294967295) :
    Calls Tryd.prog 35 #[.slice A N cap, .int .i64 a, .int .u32 m] w (RetB w 5 N (l.take a ++ Prox.sh1 m (l.drop a))) := by
  have hl : l.length = N := by have := hr.1; rw [bs_len] at this; omega
  obtain ⟨f, hf⟩ : ∃ f : Nat → Int, ∀ i, f i = (l[a + i]?).getD 0 := ⟨_, fun _ => rfl⟩
  have hfi : ∀ i, i < 4 → l[a + i]? = some (f i) := fun i hi => by
    rw [hf, List.getElem?_eq_getElem (by omega)]
    rfl
  have hfb : ∀ i, 0 ≤ f i ∧ f i ≤ 255 := fun i => by
    rw [hf]
    cases h : l[a + i]? with
    | none => simp
    | some x => exact hB x (List.mem_of_getElem? h)
  obtain ⟨x0, x1, x2, x3, e0, e1, e2, e3, hset⟩ := Prox.cut4 (l := l) (a := a) (by omega)
  obtain rfl : x0 = f 0 := by have := hfi 0 (by omega); rw [Nat.add_zero, e0] at this; injection this
  obtain rfl : x1 = f 1 := by have := hfi 1 (by omega); rw [e1] at this; injection this
  obtain rfl : x2 = f 2 := by have := hfi 2 (by omega); rw [e2] at this; injection this
  obtain rfl : x3 = f 3 := by have := hfi 3 (by omega); rw [e3] at this; injection this
  have HSET := Lib.hid hset
  have HF := Lib.hid hfi
  have HFB := Lib.hid hfb
  have HR := Lib.hid hr
  have HB := Lib.hid hB
  clear e0 e1 e2 e3 hset hfi hfb hf
  obtain ⟨b, off, rfl, hbs, hc⟩ := hr.2 (by omega)
  have HC := Lib.hid hc
  clear hr hc hB
  go_enter Tryd.func35, Tryd.ntmps35
  go_wp2_with fail
  go_loopg [7, 8] 5 (fun g s7 s8 wx => ∃ i : Nat, i ≤ 4 ∧ 4 < g + i ∧ s7 = .int .u32 (Prox.pre f i) ∧ s8 = .int .i64 i ∧ wx = w)
  case atStart => exact ⟨0, by omega, by omega, rfl, rfl, rfl⟩
  case round =>
    obtain ⟨i, hi, hg, rfl, rfl, rfl⟩ := hrel
    obtain ⟨G1, rfl⟩ : ∃ G1, gk = G1 + 1 := ⟨gk - 1, by omega⟩
    by_cases hi4 : i < 4
    · have hiz : (i : Int) < 4 := by omega
      obtain ⟨k, hki⟩ : ∃ k, k = a + i := ⟨_, rfl⟩
      have hk : wr.cell? ⟨b, off + k, none⟩ = some (.int .u8 (f i)) := HC.out _ _ (by rw [bs, List.getElem?_map, hki, HF.out i hi4]; rfl)
      obtain ⟨p0, p1⟩ := Prox.pre_le HFB.out i (by omega)
      obtain ⟨q0, q1⟩ := HFB.out i
      have hp : Prox.pre f (i + 1) = Prox.pre f i * 256 + f i := rfl
      obtain ⟨P, hP⟩ : ∃ P, P = Prox.pre f i := ⟨_, rfl⟩
      obtain ⟨F, hF⟩ : ∃ F, F = f i := ⟨_, rfl⟩
      rw [← hP] at p0 p1 hp ⊢
      rw [← hF] at q0 q1 hp hk
      have HP := Lib.hid hp
      have hN2 : k < N := by omega
      have haz : (a : Int) + (i : Int) = (k : Int) := by omega
      clear hp hP hF hki
      go_wp2_with fail
      go_roundg G1
      case measure => omega
      case rel => exact ⟨i + 1, by omega, by omega, by rw [HP.out], by go_num, rfl⟩
    · obtain rfl : i = 4 := by omega
      have hP4 : Prox.pre f 4 = Prox.word (f 0) (f 1) (f 2) (f 3) := Prox.pre_four
      obtain ⟨wd, hwd⟩ : ∃ wd, wd = Prox.word (f 0) (f 1) (f 2) (f 3) := ⟨_, rfl⟩
      rw [← hwd] at hP4 HSET
      have hw : 0 ≤ wd ∧ wd ≤ 4294967295 := by
        have h0 := HFB.out 0
        have h1 := HFB.out 1
        have h2 := HFB.out 2
        have h3 := HFB.out 3
        rw [hwd]
        unfold Prox.word
        omega
      obtain ⟨hw0, hw1⟩ := hw
      have HO := Lib.hid (ron_spec wd m wr hw0 hw1 hm0 hm1)
      obtain ⟨y, hy⟩ : ∃ y, (wd + m) % 4294967296 = y := ⟨_, rfl⟩
      have hyb : 0 ≤ y ∧ y ≤ 4294967295 := by omega
      have HS4 : Hid (Prox.lst l a y 4 = l.take a ++ Prox.sh1 m (l.drop a)) := Lib.hid (by
        rw [Prox.lst_four]
        exact HSET.out m _ _ _ _ (by rw [hy]; rfl))
      rw [hy] at HO
      have HYL := Lib.hid (Prox.low_le hyb.1 hyb.2)
      rw [hP4]
      clear hP4 hwd hy hyb HSET HFB HF HC
      go_wp2_with fail
      refine HO.out.mono ?_
      rintro e w1 ⟨rfl, rfl⟩
      clear HO
      go_wp2_with (at_builtin; refine wpList_app0 _ rfl (.tmp 28) (.tmp 29) 27 rfl wr (by exact Below.refl _ _) 5 (.int .u8 0) 1 1 Tryd.underlying27 mov_info8 rfl (by decide) rfl (some ⟨b, off, none⟩) N cap (bs l) rfl (by exact HR.out) (one_bs _) (by unfold maxLen; omega) (by omega) ?_; intro A1 c1 w2 hown1 hbel1 hg1 hat1)
      obtain ⟨g1, rfl, hg1b⟩ := own_blk hown1 (by omega)
      have hc1 := (own_cap hown1).1
      have HOW := Lib.hid hown1
      have HBE := Lib.hid hbel1
      clear hown1 hbel1 hg1 hat1 HR
      go_loopg [7, 10] 5 (fun g s7 s10 wx => ∃ (d : Nat) (z : Int), d ≤ 4 ∧ 4 < g + d ∧ Hid (z = 3 - d) ∧ s7 = .int .u32 (Prox.low y d) ∧ s10 = .int .i64 z ∧ Hid (wx.ownsRow wr.heap.size 5 1 (.slice (some ⟨g1, 0, none⟩) N c1) N (bs (Prox.lst l a y d))) ∧ Hid (Below wr.heap.size wr wx))
      case atStart => exact ⟨0, 3, by omega, by omega, Lib.hid rfl, rfl, rfl, HOW, HBE⟩
      case round =>
        obtain ⟨d, z, hd, hg, HZ, rfl, rfl, HO, HE⟩ := hrel
        obtain ⟨G1, rfl⟩ : ∃ G1, gk = G1 + 1 := ⟨gk - 1, by omega⟩
        by_cases hd4 : d < 4
        · have hz0 : 0 ≤ z := by have := HZ.out; omega
          obtain ⟨k, hk⟩ : ∃ k : Nat, k = a + (3 - d) := ⟨_, rfl⟩
          have hkz : (a : Int) + z = (k : Int) := by have := HZ.out; omega
          have hkN : k < N := by omega
          obtain ⟨p0, p1⟩ := HYL.out d
          have hp : Prox.low y (d + 1) = Prox.low y d / 256 := rfl
          have hs : Prox.lst l a y (d + 1) = (Prox.lst l a y d).set k (Prox.low y d % 256) := by rw [hk]; rfl
          obtain ⟨P, hP⟩ : ∃ P, P = Prox.low y d := ⟨_, rfl⟩
          rw [← hP] at p0 p1 hp hs ⊢
          have HP := Lib.hid hp
          have HSX := Lib.hid hs
          have hlk : k < (Prox.lst l a y d).length := by rw [Prox.lst_len]; omega
          have kc : wr.cell? ⟨g1, k, none⟩ = some (.int .u8 ((Prox.lst l a y d)[k])) := by
            rw [HO.out.cellAt k (by omega), bs, List.getElem?_map, List.getElem?_eq_getElem hlk]
            rfl
          have kf := HO.out.frozenAt k
          have HSt := Lib.hid (HO.out.stored k (.int .u8 (P % 256)))
          clear hp hP hs hk
          go_wp2_with fail
          go_roundg G1
          case measure => omega
          case rel =>
            obtain ⟨o1, q1⟩ := HSt.out
            rw [bs_set, ← HSX.out] at o1
            exact ⟨d + 1, z - 1, by omega, by omega, Lib.hid (by have := HZ.out; omega), by rw [HP.out], by go_num, Lib.hid o1, Lib.hid (below_by HE.out q1 (fun k hk => by injection hk with hk; omega) HE.out.size)⟩
        · obtain rfl : d = 4 := by omega
          obtain rfl : z = -1 := by have := HZ.out; omega
          go_wp2_with fail
          go_ret
          rw [HS4.out] at HO
          exact ⟨_, _, rfl, HO.out, HE.out⟩
end Go.Proofs.YtpidpbjbgjkaaaaDoor
