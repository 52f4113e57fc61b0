/- The walks of mac.right and mac.Check. -/
import Derived.Test.YtjikegapljdddaaDoorMacRing
import Derived.Test.YtjikegapljdddaaDoorBlkV
import Derived.Deep.RegionHeld3
namespace Go.Proofs.YtjikegapljdddaaDoor
open Go.RowKit
set_option linter.unusedVariables false
namespace Mac
def tooLong (l : List Int) : Bool := decide (128 < l.length)
def right (ls : List (List Int)) : Bool := decide (ls.length ≤ 2) && !(ls.any tooLong)
def at_ (ls : List (List Int)) (b : List Int) (n want : Int) : Int := if 2 < ls.length ∨ n < 1 ∨ 32 < n then -1 else idx (fun l => bits l b n == want) ls
end Mac
theorem mright1_spec (W : World) (k : Mac.Key) (hk : k.ok W) : Calls Tryd.prog 45 #[.slice k.A k.n k.c] W fun e w' => e = .returned (.bool (Mac.tooLong k.l)) ∧ Below W.heap.size W w' := by
  have hl := hk.rd.blen
  have HL := Lib.hid hl
  clear hl hk
  go_enter Tryd.func45, Tryd.ntmps45
  go_wp2
  go_ret
  refine ⟨ret_bool ?_, Below.refl _ _⟩
  unfold Mac.tooLong
  rw [HL.out, decide_eq_decide]
  omega
set_option maxHeartbeats 1000000 in
theorem mright_spec (A : Option Addr) (n c : Nat) (rs : List Mac.Key) (w : World) (hr : Mac.Ring w A n rs) (hbig : n ≤ 9223372036854775807) :
    Calls Tryd.prog 36 #[.slice A n c] w fun e w' => e = .returned (.bool (Mac.right (rs.map (·.l)))) ∧ Below w.heap.size w w' := by
  have eg : ∀ args w, (callFunc 45 args).run Tryd.prog w = .ok (.enter 45 args) w := enters_of Tryd.func45 (by kernel_rfl) rfl
  have hp : PredK 45 #[] (fun k => Mac.tooLong k.l) w := fun W k hk _ => mright1_spec W k hk
  have hc := containsK_spec 45 #[] (fun k => Mac.tooLong k.l) A n c rs w eg hp hr hbig
  have hl := hr.len
  have e : (rs.map (·.l)).any Mac.tooLong = rs.any (fun k => Mac.tooLong k.l) := by rw [List.any_map]; rfl
  unfold Mac.right
  rw [e, List.length_map, hl]
  generalize (rs.any fun k => Mac.tooLong k.l) = q at hc ⊢
  clear hp eg hr e hl
  by_cases h64 : n ≤ 2
  · have h1 : (n : Int) ≤ 2 := by omega
    have h2 : decide (n ≤ 2) = true := by simp [h64]
    rw [h2]
    go_enter Tryd.func36, Tryd.ntmps36
    go_wp2_with (go_at_call 44; refine (hc).mono ?_; rintro e w' ⟨rfl, hb'⟩)
    go_ret
    exact ⟨ret_bool (by simp), hb'⟩
  · have h1 : ¬ (n : Int) ≤ 2 := by omega
    have h2 : decide (n ≤ 2) = false := by simp; omega
    rw [h2]
    go_enter Tryd.func36, Tryd.ntmps36
    go_wp2
    go_ret
    exact ⟨ret_bool (by simp), Below.refl _ _⟩
theorem bel_al2 {w w' : World} (h : Below w.heap.size w w') (o : Obj) : Below w.heap.size w (w'.alloc o) := h.alloc h.size o
theorem bel_dr2 {B : Nat} {w w' : World} (h : Below B w w') : Below B w w'.drew := ⟨h.os, h.tape, h.output, h.size, h.block⟩
theorem bel_drN2 {B : Nat} {w w' : World} (h : Below B w w') (k : Nat) : Below B w (w'.drewN k) := ⟨h.os, h.tape, h.output, h.size, h.block⟩
set_option maxHeartbeats 2000000 in
theorem mcheck1_spec (k : Mac.Key) (g5 g6 g7 : Nat) (B : Option Addr) (m d : Nat) (b : List Int) (nn want : Int) (W : World) (hT : Tabs W) (hk : k.ok W) (hB : Rd W 1 B m (bs b)) (hb8 : isB b) (hm : m ≤ 4294960000)
    (h5 : W.cell? ⟨g5, 0, none⟩ = some (.slice B m d)) (h6 : W.cell? ⟨g6, 0, none⟩ = some (.int .i64 nn)) (h7 : W.cell? ⟨g7, 0, none⟩ = some (.int .u32 want)) (l5 : g5 < W.heap.size) (l6 : g6 < W.heap.size) (l7 : g7 < W.heap.size) :
    Calls Tryd.prog 39 #[.slice k.A k.n k.c, .pointer (some ⟨g5, 0, none⟩), .pointer (some ⟨g6, 0, none⟩), .pointer (some ⟨g7, 0, none⟩)] W fun e w' => e = .returned (.bool (Mac.bits k.l b nn == want)) ∧ Below W.heap.size W w' := by
  have KF : Hid (∀ w' : World, Below W.heap.size W w' → w'.cell? ⟨g5, 0, none⟩ = some (.slice B m d) ∧ w'.cell? ⟨g6, 0, none⟩ = some (.int .i64 nn) ∧ w'.cell? ⟨g7, 0, none⟩ = some (.int .u32 want)) := Lib.hid fun w' hb => ⟨(hb.cell (p := ⟨g5, 0, none⟩) l5).trans h5, (hb.cell (p := ⟨g6, 0, none⟩) l6).trans h6, (hb.cell (p := ⟨g7, 0, none⟩) l7).trans h7⟩
  have HC : Hid (∀ w' : World, Below W.heap.size W w' → Calls Tryd.prog 18 #[.slice k.A k.n k.c, .slice B m d, .int .i64 nn] w' fun e w'' => e = .returned (.int .u32 (Mac.bits k.l b nn)) ∧ Below w'.heap.size w' w'') := Lib.hid fun w' hb =>
    mbits_spec k.A k.n k.c B m d k.l b nn w' (hT.below hb) (hk.rd.below hb) (hB.below hb) hk.by8 hb8 (by have := hk.small; omega) hm
  generalize Mac.bits k.l b nn = v at HC ⊢
  obtain ⟨KA, kn, kc, kl⟩ := k
  simp only at HC ⊢
  clear hT hk hB hb8
  go_enter Tryd.func39, Tryd.ntmps39
  go_wp2_with fail
  go_region_held3 (fun w' => w'.cell? ⟨g5, 0, none⟩ = some (.slice B m d) ∧ w'.cell? ⟨g6, 0, none⟩ = some (.int .i64 nn) ∧ w'.cell? ⟨g7, 0, none⟩ = some (.int .u32 want)) (exact KF.out _ (by repeat (first | with_reducible exact hbn | with_reducible exact Below.refl W.heap.size W | with_reducible refine bel_al2 ?_ _ | with_reducible refine bel_dr2 ?_ | with_reducible refine bel_drN2 ?_ _)))
    (with_reducible first | (refine (HC.out _ (by repeat (first | with_reducible exact hbn | with_reducible exact Below.refl W.heap.size W | with_reducible refine bel_al2 ?_ _ | with_reducible refine bel_dr2 ?_ | with_reducible refine bel_drN2 ?_ _))).mono ?_; rintro e w9 ⟨rfl, hb9⟩; have hbn : Below W.heap.size W w9 := bel_then (by repeat (first | with_reducible exact hbn | with_reducible exact Below.refl W.heap.size W | with_reducible refine bel_al2 ?_ _ | with_reducible refine bel_dr2 ?_ | with_reducible refine bel_drN2 ?_ _)) hb9))
  all_goals
    go_wp2_with fail
    go_ret
    exact ⟨rfl, (by repeat (first | with_reducible exact hbn | with_reducible exact Below.refl W.heap.size W | with_reducible refine bel_al2 ?_ _ | with_reducible refine bel_dr2 ?_ | with_reducible refine bel_drN2 ?_ _))⟩
set_option maxHeartbeats 4000000 in
theorem mcheck_spec (A : Option Addr) (n c : Nat) (rs : List Mac.Key) (B : Option Addr) (m d : Nat) (b : List Int) (nn want : Int) (w : World) (hT : Tabs w) (hr : Mac.Ring w A n rs) (hbig : n ≤ 9223372036854775807) (hB : Rd w 1 B m (bs b)) (hb8 : isB b) (hm : m ≤ 4294960000) :
    Calls Tryd.prog 23 #[.slice A n c, .slice B m d, .int .i64 nn, .int .u32 want] w fun e w' => e = .returned (.tuple #[.int .i64 (max (Mac.at_ (rs.map (·.l)) b nn want) 0), .bool (decide (0 ≤ Mac.at_ (rs.map (·.l)) b nn want))]) ∧ Below w.heap.size w w' := by
  obtain ⟨V, hV⟩ : ∃ V, V = ((w.alloc (.cells #[.slice B m d] 24)).alloc (.cells #[.int .i64 nn] 3)).alloc (.cells #[.int .u32 want] 28) := ⟨_, rfl⟩
  have hbV : Below w.heap.size w V := by rw [hV]; exact (((Below.refl _ _).alloc (Nat.le_refl _) _).alloc (by simp) _).alloc (by simp; omega) _
  have hsV : V.heap.size = w.heap.size + 3 := by rw [hV]; simp
  have c5 : V.cell? ⟨w.heap.size, 0, none⟩ = some (.slice B m d) := by rw [hV]; exact (((BlkV.new w 24 [.slice B m d]).alloc _).alloc _).cell (i := 0) rfl
  have c6 : V.cell? ⟨w.heap.size + 1, 0, none⟩ = some (.int .i64 nn) := by rw [hV]; exact ((BlkV.new_at (w.alloc (.cells #[.slice B m d] 24)) 3 [.int .i64 nn] (by simp)).alloc _).cell (i := 0) rfl
  have c7 : V.cell? ⟨w.heap.size + 1 + 1, 0, none⟩ = some (.int .u32 want) := by rw [hV]; exact (BlkV.new_at ((w.alloc (.cells #[.slice B m d] 24)).alloc (.cells #[.int .i64 nn] 3)) 28 [.int .u32 want] (by simp)).cell (i := 0) rfl
  have hl := hr.len
  have HAT : Hid (Mac.at_ (rs.map (·.l)) b nn want = if 2 < n ∨ nn < 1 ∨ 32 < nn then -1 else Mac.idx (fun k : Mac.Key => Mac.bits k.l b nn == want) rs) := Lib.hid (by
    unfold Mac.at_
    rw [List.length_map, hl, ← Mac.idx_map (fun k : Mac.Key => k.l) (fun l => Mac.bits l b nn == want) rs])
  have eg : ∀ args w, (callFunc 39 args).run Tryd.prog w = .ok (.enter 39 args) w := enters_of Tryd.func39 (by kernel_rfl) rfl
  have hTV := hT.below hbV
  have hrV := hr.below hbV
  have hBV := hB.below hbV
  have hp : PredK 39 #[.pointer (some ⟨w.heap.size, 0, none⟩), .pointer (some ⟨w.heap.size + 1, 0, none⟩), .pointer (some ⟨w.heap.size + 1 + 1, 0, none⟩)] (fun k : Mac.Key => Mac.bits k.l b nn == want) V := fun W k hk hbW =>
    mcheck1_spec k w.heap.size (w.heap.size + 1) (w.heap.size + 1 + 1) B m d b nn want W (hTV.below hbW) hk (hBV.below hbW) hb8 hm
      ((hbW.cell (p := ⟨w.heap.size, 0, none⟩) (by show w.heap.size < _; omega)).trans c5) ((hbW.cell (p := ⟨w.heap.size + 1, 0, none⟩) (by show w.heap.size + 1 < _; omega)).trans c6) ((hbW.cell (p := ⟨w.heap.size + 1 + 1, 0, none⟩) (by show w.heap.size + 1 + 1 < _; omega)).trans c7)
      (by have := hbW.size; omega) (by have := hbW.size; omega) (by have := hbW.size; omega)
  have HC := Lib.hid (indexK_spec 39 _ (fun k : Mac.Key => Mac.bits k.l b nn == want) A n c rs V eg hp hrV hbig)
  have HG := Lib.hid (Mac.idx_ge (fun k : Mac.Key => Mac.bits k.l b nn == want) rs)
  obtain ⟨at0, hat0⟩ : ∃ a, a = Mac.at_ (rs.map (·.l)) b nn want := ⟨_, rfl⟩
  rw [← hat0] at HAT ⊢
  generalize Mac.idx (fun k : Mac.Key => Mac.bits k.l b nn == want) rs = ix at HAT HC HG
  have l5 : w.heap.size < V.heap.size := by omega
  have l6 : w.heap.size + 1 < V.heap.size := by omega
  have l7 : w.heap.size + 1 + 1 < V.heap.size := by omega
  clear hat0 hT hr hB hb8 hTV hrV hBV hp eg hl hsV
  by_cases h1 : 2 < n
  · have h1z : (2 : Int) < (n : Int) := by omega
    have ha : at0 = -1 := by rw [HAT.out, if_pos (Or.inl h1)]
    subst ha
    go_enter Tryd.func23, Tryd.ntmps23
    go_wp2_with fail
    rw [← hV]
    go_ret2
    exact ⟨rfl, hbV⟩
  have h1z : ¬ (2 : Int) < (n : Int) := by omega
  by_cases h2 : nn < 1
  · have ha : at0 = -1 := by rw [HAT.out, if_pos (Or.inr (Or.inl h2))]
    subst ha
    go_enter Tryd.func23, Tryd.ntmps23
    go_upto_region 1 with (fail)
    rw [← hV]
    clear hV
    go_wp2_with fail
    go_ret2
    exact ⟨rfl, hbV⟩
  by_cases h3 : 32 < nn
  · have ha : at0 = -1 := by rw [HAT.out, if_pos (Or.inr (Or.inr h3))]
    subst ha
    go_enter Tryd.func23, Tryd.ntmps23
    go_upto_region 1 with (fail)
    rw [← hV]
    clear hV
    go_wp2_with fail
    go_ret2
    exact ⟨rfl, hbV⟩
  have ha : at0 = ix := by rw [HAT.out, if_neg (by omega)]
  obtain ⟨hg0, hg1⟩ := HG.out
  clear HAT HG hg1
  subst ha
  go_enter Tryd.func23, Tryd.ntmps23
  go_upto_region 1 with (fail)
  rw [← hV]
  clear hV
  go_wp2_with fail
  refine HC.out.mono ?_
  rintro e w1 ⟨rfl, hb1⟩
  have hbF := bel_then hbV hb1
  clear HC hb1 hbV
  by_cases hz : at0 < 0
  · have ha : at0 = -1 := by omega
    subst ha
    go_wp2_with fail
    go_ret2
    exact ⟨rfl, hbF⟩
  · have hz' : 0 ≤ at0 := by omega
    go_wp2_with fail
    go_ret2
    refine ⟨?_, hbF⟩
    have e1 : max at0 0 = at0 := by omega
    rw [e1]
    simp [hz']
end Go.Proofs.YtjikegapljdddaaDoor
