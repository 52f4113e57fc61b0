/- The walks of tcp.Find and window.scale. -/
import Derived.Test.YtliibpajgdncpaaWinScale
namespace Go.Proofs.Ytliibpajgdncpaa
open Go.RowKit
set_option linter.unusedVariables false
theorem Win.at_get : ∀ (l : List Tcp.Opt), ¬ Win.at l < 0 → ∃ (k : Nat) (o : Tcp.Opt), Win.at l = k ∧ l[k]? = some o := by
  intro l
  induction l with
  | nil => intro h; simp [Win.at] at h
  | cons x t ih =>
    intro h
    simp only [Win.at] at h ⊢
    split at h
    · rename_i hx
      exact ⟨0, x, by rw [if_pos hx]; rfl, rfl⟩
    · rename_i hx
      split at h
      · omega
      · rename_i ht
        obtain ⟨k, o, h1, h2⟩ := ih ht
        refine ⟨k + 1, o, ?_, by simpa using h2⟩
        rw [if_neg hx, if_neg ht, h1]
        omega
/-- what tcp.Find answers for the option of the scale -/
def FindR (l : List Tcp.Opt) (w : World) (e : Ending) (w' : World) : Prop :=
  ((Win.at l < 0 ∧ e = .returned (.tuple #[.slice none 0 0, .bool false])) ∨ (∃ (k : Nat) (o : Tcp.Opt) (A' : Option Addr) (c' : Nat), Win.at l = k ∧ l[k]? = some o ∧ e = .returned (.tuple #[.slice A' o.n c', .bool true]) ∧ Rd w' 1 A' o.n (bs o.data))) ∧ Below w.heap.size w w'
set_option maxHeartbeats 2000000 in
theorem find_spec (sp dp sq ak fl wi ur : Int) (Ao : Option Addr) (no co : Nat) (Ab : Option Addr) (nb cb : Nat) (l : List Tcp.Opt) (w : World) (hO : Tcp.OptsRd w Ao no l) (hn : no ≤ 9223372036854775807) (h300 : ∀ o ∈ l, o.n ≤ 300) :
    Calls Try.prog 42 #[.agg #[.int .i64 sp, .int .i64 dp, .int .u32 sq, .int .u32 ak, .int .i64 fl, .int .i64 wi, .int .i64 ur, .slice Ao no co, .slice Ab nb cb], .int .i64 3] w (FindR l w) := by
  obtain ⟨W, hW⟩ : ∃ W, W = (w.alloc (.cells #[.int .i64 sp, .int .i64 dp, .int .u32 sq, .int .u32 ak, .int .i64 fl, .int .i64 wi, .int .i64 ur, .slice Ao no co, .slice Ab nb cb] 30)).alloc (.cells #[.int .i64 3] 3) := ⟨_, rfl⟩
  have hbW : Below w.heap.size w W := by rw [hW]; exact ((Below.refl _ _).alloc (Nat.le_refl _) _).alloc (by simp) _
  have B0 : BlkV W w.heap.size 30 [.int .i64 sp, .int .i64 dp, .int .u32 sq, .int .u32 ak, .int .i64 fl, .int .i64 wi, .int .i64 ur, .slice Ao no co, .slice Ab nb cb] := by rw [hW]; exact (BlkV.new _ _ _).alloc _
  have B1 : BlkV W (w.heap.size + 1) 3 [.int .i64 3] := by rw [hW]; exact BlkV.new_at _ _ _ (by simp)
  have HI := win_index Ao no co l (w.heap.size + 1) W (hO.below hbW) hn (B1.cell (i := 0) rfl)
  have c7 := B0.cell (i := 7) rfl
  have hlt := B0.lt
  have HO := Lib.hid (hO.below hbW)
  have H3 := Lib.hid h300
  clear B1 hO h300
  have eg : ∀ args w, (callFunc 44 args).run Try.prog w = .ok (.enter 44 args) w := enters_of Try.func44 (by kernel_rfl) rfl
  by_cases h0 : Win.at l < 0
  · have HZ := Lib.hid h0
    generalize Win.at l = v at HI h0
    go_enter Try.func42, Try.ntmps42
    go_wp2_with fail
    rw [← hW]
    clear hW
    go_wp2_with fail
    refine HI.mono ?_
    rintro e w1 ⟨rfl, hb1⟩
    have hbw := bel_then hbW hb1
    clear HI hbW hb1 c7 B0 hlt
    go_wp2_with fail
    go_ret2
    exact ⟨Or.inl ⟨HZ.out, rfl⟩, hbw⟩
  · obtain ⟨k, o, hk, ho⟩ := Win.at_get l h0
    have HK := Lib.hid hk
    have hkn : k < no := by have := (List.getElem?_eq_some_iff.1 ho).1; have := HO.out.1; omega
    rw [hk] at HI
    have hki : (k : Int) < (no : Int) := by omega
    obtain ⟨b, off, rfl, hb, hc⟩ := HO.out.2.2 (by omega)
    obtain ⟨q0, q1⟩ := hc k o ho
    have hok := HO.out.2.1 o (List.mem_of_getElem? ho)
    have hn3 := H3.out o (List.mem_of_getElem? ho)
    have HQ := Lib.hid q1
    have HOK := Lib.hid hok
    have HHO := Lib.hid ho
    clear hc q0 q1 hok ho h0 hk
    go_enter Try.func42, Try.ntmps42
    go_wp2_with fail
    rw [← hW]
    clear hW
    go_wp2_with fail
    refine HI.mono ?_
    rintro e w1 ⟨rfl, hb1⟩
    have hbw := bel_then hbW hb1
    have C7 := (B0.below hb1).cell (i := 7) rfl
    have hlt1 := (B0.below hb1).lt
    have q1 := (hb1.cell (p := ⟨b, off + k * 2 + 1, none⟩) hb).trans HQ.out
    have HC := win_clone o.A o.n o.c o.data w1 (HOK.out.below hb1).1 (by omega)
    clear HI hbW hb1 c7 B0 hlt HQ HOK
    go_wp2_with fail
    refine HC.mono ?_
    rintro e w2 ⟨A', c', rfl, hR, hb2⟩
    go_wp2_with fail
    go_ret2
    exact ⟨Or.inr ⟨k, o, A', c', HK.out, HHO.out, rfl, hR⟩, bel_then hbw hb2⟩
set_option maxHeartbeats 2000000 in
theorem win_scale (sp dp sq ak fl wi ur : Int) (Ao : Option Addr) (no co : Nat) (Ab : Option Addr) (nb cb : Nat) (l : List Tcp.Opt) (w : World) (hO : Tcp.OptsRd w Ao no l) (hn : no ≤ 9223372036854775807) (h300 : ∀ o ∈ l, o.n ≤ 300) :
    Calls Try.prog 40 #[.agg #[.int .i64 sp, .int .i64 dp, .int .u32 sq, .int .u32 ak, .int .i64 fl, .int .i64 wi, .int .i64 ur, .slice Ao no co, .slice Ab nb cb]] w fun e w' => e = .returned (.int .i64 (Win.scale l)) ∧ Below w.heap.size w w' := by
  have HF := fun w' h => find_spec sp dp sq ak fl wi ur Ao no co Ab nb cb l w' (hO.below h) hn h300
  have hBB : Hid (∀ o ∈ l, isB o.data) := Lib.hid fun o ho => (hO.2.1 o ho).2.1
  have HD : Hid (Win.scale l = if Win.at l < 0 then -1 else match l[(Win.at l).toNat]? with | none => -1 | some o => if o.n = 1 then min (o.data.getD 0 0) 14 else -1) := Lib.hid rfl
  have hb0 : Below w.heap.size w (w.alloc (.cells #[.int .i64 sp, .int .i64 dp, .int .u32 sq, .int .u32 ak, .int .i64 fl, .int .i64 wi, .int .i64 ur, .slice Ao no co, .slice Ab nb cb] 30)) := (Below.refl _ _).alloc (Nat.le_refl _) _
  have HC := HF _ hb0
  clear HF hO h300
  go_enter Try.func40, Try.ntmps40
  go_wp2_with fail
  refine HC.mono ?_
  rintro e w1 ⟨h1, hb1⟩
  have hbF := bel_then hb0 hb1
  rcases h1 with ⟨h1, rfl⟩ | ⟨k, o, A', c', hk, ho, rfl, hR⟩
  · clear hb0 hb1 HC
    go_wp2_with fail
    go_ret
    exact ⟨ret_int (by rw [HD.out, if_pos h1]), hbF⟩
  · have HD2 : Hid (Win.scale l = if o.n = 1 then min (o.data.getD 0 0) 14 else -1) := Lib.hid (by rw [HD.out, hk, if_neg (by omega), Int.toNat_natCast, ho])
    obtain ⟨d0, d1⟩ := (hBB.out o (List.mem_of_getElem? ho)).getD 0
    have HR := Lib.hid hR
    clear hb0 hb1 HC HD hk ho hBB hR
    by_cases h1 : o.n = 1
    · rw [h1] at HR HD2 ⊢
      obtain ⟨g, off, rfl, hg, x0⟩ := HR.out.byte (k := 0) (by omega)
      rw [Nat.add_zero] at x0
      generalize o.data.getD 0 0 = x at x0 HD2 d0 d1
      clear h1
      go_wp2_with fail
      all_goals
        go_ret
        exact ⟨ret_int (by rw [HD2.out, if_pos trivial]; omega), hbF⟩
    · have hne : ((o.n : Int) != 1) = true := by rw [bne_iff_ne]; omega
      have HN := Lib.hid h1
      clear h1
      go_wp2_with fail
      go_ret
      exact ⟨ret_int (by rw [HD2.out, if_neg HN.out]), hbF⟩
end Go.Proofs.Ytliibpajgdncpaa
