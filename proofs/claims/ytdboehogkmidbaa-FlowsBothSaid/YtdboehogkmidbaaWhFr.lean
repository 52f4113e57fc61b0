/- A wheel as a test sees it: contracts over WF. No law in sight. A wheel that is filled number by number; contracts of Drop, Waits, When, Now over WF. WheelDrops' plain law. No program in sight. WheelTwo's plain law. No program in sight. The reference's wheel over lists: what its Set, Drop and Tick leave, beside the heap. No program in sight. Two wheels beside one another: what one of them does leaves the other one. Contracts over W2. A wheel beside other blocks: what its calls leave alone. No law in sight. -/
import Derived.Test.YtdboehogkmidbaaWhTick
import Derived.Test.YtdboehogkmidbaaWheelPlain
/-! ### A wheel as a test sees it: contracts over WF. No law in sight. -/
namespace Go.Proofs.Ytdboehogkmidbaa
open Go.RowKit
set_option linter.unusedVariables false
set_option linter.unusedSimpArgs false
/-- the wheel at gw holds l, stands at now; of w only new blocks are others -/
structure WF (w0 : World) (gw : Nat) (l : List Wh.Al) (now : Int) (w : World) : Prop where
  bel : Below w0.heap.size w0 w
  wh : ∃ L c es ck, L.gw = gw ∧ WM w L c es ck l now ∧ ∀ k, L.own k → w0.heap.size ≤ k
theorem Step.own_ge {w w' : World} {L L' : Loc} {B : Nat} (h : Step w w' L L') (hL : ∀ k, L.own k → B ≤ k) (hB : B ≤ w.heap.size) : ∀ k, L'.own k → B ≤ k := by
  intro k hk
  rcases hk with e | e | e
  · exact hL k (Or.inl (e.trans h.gw))
  · exact hL k (Or.inr (Or.inl (e.trans h.gm)))
  · rcases h.gr k e with h1 | h1
    · exact hL k (Or.inr (Or.inr h1))
    · omega
theorem WF.go {w0 w w' : World} {gw : Nat} {l' : List Wh.Al} {now' : Int} {L : Loc} (hb : Below w0.heap.size w0 w) (hg : L.gw = gw) (hL : ∀ k, L.own k → w0.heap.size ≤ k) (h : Wgo w L l' now' w') : WF w0 gw l' now' w' := by
  obtain ⟨L', c', es', ck', h1, h2⟩ := h
  exact ⟨h2.keeps.below hb hL hb.size, L', c', es', ck', h2.gw.trans hg, h1, h2.own_ge hL hb.size⟩
theorem WF.below {w0 w w' : World} {gw : Nat} {l : List Wh.Al} {now : Int} (h : WF w0 gw l now w) (hb : Below w.heap.size w w') : WF w0 gw l now w' := by
  obtain ⟨L, c, es, ck, h1, h2, h3⟩ := h.wh
  exact ⟨bel_then h.bel hb, L, c, es, ck, h1, h2.below hb, h3⟩
theorem wnew_wf (w : World) : Calls Try.prog 17 #[] w fun e w' => ∃ gw, e = .returned (.pointer (some ⟨gw, 0, none⟩)) ∧ WF w gw [] 0 w' := by
  refine (wnew_spec w).mono ?_
  rintro e w' ⟨gw, gm, rfl, h1, h2, hb, hW⟩
  refine ⟨gw, rfl, hb, _, _, _, _, rfl, hW, fun k hk => ?_⟩
  rcases hk with e | e | e
  · rw [e]; exact h1
  · rw [e]; exact h2
  · cases e
/-- what Set answers, and what it leaves -/
def Wh.setR (l : List Wh.Al) (now k t : Int) : Int × List Wh.Al :=
  if ¬ (0 ≤ k ∧ k ≤ 2147483647 ∧ 0 ≤ t ∧ t ≤ 1099511627776) then (1, l) else if t ≤ now then (14, l) else if (Wh.place l k).isNone ∧ l.length = 256 then (8, l) else (0, Wh.setL l k t)
theorem WF.set {w0 w : World} {gw : Nat} {l : List Wh.Al} {now : Int} (h : WF w0 gw l now w) (k t : Int) :
    Calls Try.prog 20 #[.pointer (some ⟨gw, 0, none⟩), .int .i64 k, .int .i64 t] w fun e w' => e = .returned (.int .i64 (Wh.setR l now k t).1) ∧ WF w0 gw (Wh.setR l now k t).2 now w' := by
  obtain ⟨L, c, es, ck, hg, hW, hL⟩ := h.wh
  subst hg
  unfold Wh.setR
  by_cases hb : ¬ (0 ≤ k ∧ k ≤ 2147483647 ∧ 0 ≤ t ∧ t ≤ 1099511627776)
  · rw [if_pos hb]
    exact (set_bad L.gw hb).mono (by rintro e w' ⟨rfl, rfl⟩; exact ⟨rfl, h⟩)
  · rw [if_neg hb]
    obtain ⟨h0, h1, h2, h3⟩ := Decidable.not_not.1 hb
    by_cases hn : t ≤ now
    · rw [if_pos hn]
      exact (hW.set_late h0 h1 h2 h3 hn).mono (by rintro e w' ⟨rfl, rfl⟩; exact ⟨rfl, h⟩)
    · rw [if_neg hn]
      cases hk : Wh.place l k with
      | some i =>
        rw [if_neg (by simp)]
        exact (hW.set_some hk h0 h1 h2 h3 (by omega)).mono (by rintro e w' ⟨rfl, hg⟩; exact ⟨rfl, WF.go h.bel rfl hL hg⟩)
      | none =>
        have hs := hW.sm
        by_cases h5 : l.length = 256
        · rw [if_pos ⟨by simp, h5⟩]
          exact (hW.set_full hk h0 h1 h2 h3 (by omega) h5).mono (by rintro e w' ⟨rfl, rfl⟩; exact ⟨rfl, h⟩)
        · rw [if_neg (fun q => h5 q.2)]
          exact (hW.set_new hk h0 h1 h2 h3 (by omega) (by omega)).mono (by rintro e w' ⟨rfl, hg⟩; exact ⟨rfl, WF.go h.bel rfl hL hg⟩)
/-- Tick within the bounds -/
def WTick (w0 w : World) (gw : Nat) (r : List Wh.Al × List Wh.Al) (t : Int) (e : Ending) (w' : World) : Prop :=
  ∃ B d, e = .returned (.tuple #[.slice B r.1.length d, .int .i64 0]) ∧ Rd w' 1 B r.1.length (ks r.1) ∧ w'.ownsRow w.heap.size 3 1 (.slice B r.1.length d) r.1.length (ks r.1) ∧ WF w0 gw r.2 t w' ∧ ∀ b v n xs, w.ownsRow b 3 1 v n xs → w'.ownsRow b 3 1 v n xs
theorem WF.tick {w0 w : World} {gw : Nat} {l : List Wh.Al} {now : Int} (h : WF w0 gw l now w) {t : Int} (h0 : now ≤ t) (h1 : t ≤ 1099511627776) :
    Calls Try.prog 25 #[.pointer (some ⟨gw, 0, none⟩), .int .i64 t] w (WTick w0 w gw (Wh.tickL (l.length + 1) l t) t) := by
  obtain ⟨L, c, es, ck, hg, hW, hL⟩ := h.wh
  subst hg
  refine (hW.tick h0 h1).mono ?_
  rintro e w' ⟨B, d, rfl, hO, hg⟩
  refine ⟨B, d, rfl, Rd.of_own hO, hO, WF.go h.bel rfl hL hg, fun b v n xs ho => ?_⟩
  obtain ⟨L', c', es', ck', h1, h2⟩ := hg
  exact own_step hW ho h2
end Go.Proofs.Ytdboehogkmidbaa
/-! ### A wheel that is filled number by number; contracts of Drop, Waits, When, Now over WF. -/
namespace Go.Proofs.Ytdboehogkmidbaa
open Go.RowKit
set_option linter.unusedVariables false
namespace Wh
def fill (a : List Int) : Nat → List Al
  | 0 => []
  | i + 1 => setL (fill a i) i (a.getD i 0 + 1)
theorem fill_law (a : List Int) : ∀ i, Wok (fill a i) ∧ (fill a i).length = i ∧ ∀ x, x ∈ fill a i ↔ ∃ j : Nat, j < i ∧ x = ⟨j, a.getD j 0 + 1⟩ := by
  intro i
  induction i with
  | zero => exact ⟨Wok.nil, rfl, fun x => by simp [fill]⟩
  | succ i ih =>
    obtain ⟨h1, h2, h3⟩ := ih
    have hp : place (fill a i) i = none := by
      cases hp : place (fill a i) i with
      | none => rfl
      | some p =>
        obtain ⟨q1, q2⟩ := place_some hp
        obtain ⟨j, hj, e⟩ := (h3 _).1 (al_mem q1)
        rw [e] at q2
        simp only at q2
        omega
    refine ⟨h1.set _ _, by show (setL _ _ _).length = _; rw [set_len, hp, h2]; rfl, fun x => ?_⟩
    show x ∈ setL _ _ _ ↔ _
    rw [mem_set h1.dist, h3]
    constructor
    · rintro (rfl | ⟨⟨j, hj, rfl⟩, hk⟩)
      · exact ⟨i, by omega, rfl⟩
      · exact ⟨j, by omega, rfl⟩
    · rintro ⟨j, hj, rfl⟩
      by_cases e : j = i
      · subst e; exact Or.inl rfl
      · exact Or.inr ⟨⟨j, by omega, rfl⟩, by simp only; omega⟩
theorem fill_none (a : List Int) (i : Nat) : place (fill a i) i = none := by
  obtain ⟨h1, h2, h3⟩ := fill_law a i
  cases hp : place (fill a i) i with
  | none => rfl
  | some p =>
    obtain ⟨q1, q2⟩ := place_some hp
    obtain ⟨j, hj, e⟩ := (h3 _).1 (al_mem q1)
    rw [e] at q2
    simp only at q2
    omega
theorem fill_setR (a : List Int) (i : Nat) (hi : i < 256) (h0 : 0 ≤ a.getD i 0) (h1 : a.getD i 0 ≤ 65535) : setR (fill a i) 0 i (a.getD i 0 + 1) = (0, fill a (i + 1)) := by
  have h2 := (fill_law a i).2.1
  unfold setR
  rw [if_neg (by omega), if_neg (by omega), if_neg (by omega)]
  rfl
end Wh
theorem WF.drop {w0 w : World} {gw : Nat} {l : List Wh.Al} {now : Int} (h : WF w0 gw l now w) (k : Int) :
    Calls Try.prog 22 #[.pointer (some ⟨gw, 0, none⟩), .int .i64 k] w fun e w' =>
      e = .returned (.int .i64 (match Wh.place l k with | some _ => 0 | none => 9)) ∧ WF w0 gw (match Wh.place l k with | some i => Wh.remL l i | none => l) now w' := by
  obtain ⟨L, c, es, ck, hg, hW, hL⟩ := h.wh
  subst hg
  cases hk : Wh.place l k with
  | some i => exact (hW.drop_some hk).mono (by rintro e w' ⟨rfl, hg⟩; exact ⟨rfl, WF.go h.bel rfl hL hg⟩)
  | none => exact (hW.drop_none hk).mono (by rintro e w' ⟨rfl, rfl⟩; exact ⟨rfl, h⟩)
theorem WF.nowc {w0 w : World} {gw : Nat} {l : List Wh.Al} {now : Int} (h : WF w0 gw l now w) :
    Calls Try.prog 24 #[.pointer (some ⟨gw, 0, none⟩)] w fun e w' => e = .returned (.int .i64 now) ∧ w = w' := by
  obtain ⟨L, c, es, ck, hg, hW, hL⟩ := h.wh
  subst hg
  exact hW.nowc
theorem WF.sm {w0 w : World} {gw : Nat} {l : List Wh.Al} {now : Int} (h : WF w0 gw l now w) : l.length ≤ 256 ∧ (l.map (·.k)).Nodup := by
  obtain ⟨L, c, es, ck, hg, hW, hL⟩ := h.wh
  exact ⟨hW.sm, hW.dist⟩
end Go.Proofs.Ytdboehogkmidbaa
/-! ### WheelDrops' plain law. No program in sight. -/
namespace Go.Proofs.Ytdboehogkmidbaa
set_option linter.unusedVariables false
namespace Wh
/-- is number j dropped? -/
def dr (d : List Bool) (j : Nat) : Bool := d.getD j false
def dropAt (l : List Al) (k : Int) : List Al := match place l k with | some i => remL l i | none => l
theorem dropAt_wok {l : List Al} (h : Wok l) (k : Int) : Wok (dropAt l k) := by
  unfold dropAt
  cases hk : place l k with
  | some i => exact h.rem (place_some hk).1
  | none => exact h
theorem mem_dropAt {l : List Al} (h : Wok l) (k : Int) (x : Al) : x ∈ dropAt l k ↔ x ∈ l ∧ x.k ≠ k := by
  unfold dropAt
  cases hk : place l k with
  | some i =>
    obtain ⟨hi, h2⟩ := place_some hk
    rw [mem_rem h.dist hi, h2]
  | none => exact ⟨fun hx => ⟨hx, place_none hk x hx⟩, fun hx => hx.1⟩
theorem len_dropAt {l : List Al} (k : Int) (h : (place l k).isSome) : (dropAt l k).length = l.length - 1 := by
  unfold dropAt
  cases hk : place l k with
  | some i => exact rem_len (place_some hk).1
  | none => rw [hk] at h; cases h
theorem place_of_mem {l : List Al} {k : Int} {x : Al} (hx : x ∈ l) (hk : x.k = k) : (place l k).isSome := by
  cases hp : place l k with
  | some i => rfl
  | none => exact absurd hk (place_none hp x hx)
def drops (a : List Int) (d : List Bool) (n : Nat) : Nat → List Al
  | 0 => fill a n
  | i + 1 => if dr d i then dropAt (drops a d n i) i else drops a d n i
/-- how many of the first i are not dropped -/
def left (d : List Bool) : Nat → Nat
  | 0 => 0
  | i + 1 => if dr d i then left d i else left d i + 1
theorem drops_law (a : List Int) (d : List Bool) (n : Nat) : ∀ i, i ≤ n → Wok (drops a d n i) ∧ (drops a d n i).length = left d i + (n - i) ∧ ∀ x, x ∈ drops a d n i ↔ ∃ j : Nat, j < n ∧ x = ⟨j, a.getD j 0 + 1⟩ ∧ (i ≤ j ∨ dr d j = false) := by
  intro i
  induction i with
  | zero =>
    intro _
    obtain ⟨h1, h2, h3⟩ := fill_law a n
    exact ⟨h1, by show (fill a n).length = _; rw [h2]; simp [left], fun x => by
      show x ∈ fill a n ↔ _
      rw [h3]
      constructor
      · rintro ⟨j, hj, rfl⟩; exact ⟨j, hj, rfl, Or.inl (Nat.zero_le _)⟩
      · rintro ⟨j, hj, rfl, _⟩; exact ⟨j, hj, rfl⟩⟩
  | succ i ih =>
    intro hi
    obtain ⟨h1, h2, h3⟩ := ih (by omega)
    have hin : (⟨i, a.getD i 0 + 1⟩ : Al) ∈ drops a d n i := (h3 _).2 ⟨i, by omega, rfl, Or.inl (Nat.le_refl _)⟩
    unfold drops left
    by_cases hd : dr d i = true
    · rw [if_pos hd, if_pos hd]
      refine ⟨dropAt_wok h1 _, ?_, fun x => ?_⟩
      · rw [len_dropAt _ (place_of_mem hin rfl), h2]; omega
      · rw [mem_dropAt h1, h3]
        constructor
        · rintro ⟨⟨j, hj, rfl, ho⟩, hk⟩
          simp only at hk
          refine ⟨j, hj, rfl, ?_⟩
          rcases ho with ho | ho
          · exact Or.inl (by omega)
          · exact Or.inr ho
        · rintro ⟨j, hj, rfl, ho⟩
          refine ⟨⟨j, hj, rfl, ?_⟩, ?_⟩
          · rcases ho with ho | ho
            · exact Or.inl (by omega)
            · exact Or.inr ho
          · simp only
            rcases ho with ho | ho
            · omega
            · intro e
              have : j = i := by omega
              rw [this, hd] at ho
              cases ho
    · rw [if_neg hd, if_neg hd]
      refine ⟨h1, by rw [h2]; omega, fun x => ?_⟩
      rw [h3]
      constructor
      · rintro ⟨j, hj, rfl, ho⟩
        refine ⟨j, hj, rfl, ?_⟩
        rcases ho with ho | ho
        · by_cases e : j = i
          · rw [e]; exact Or.inr (by simpa using hd)
          · exact Or.inl (by omega)
        · exact Or.inr ho
      · rintro ⟨j, hj, rfl, ho⟩
        refine ⟨j, hj, rfl, ?_⟩
        rcases ho with ho | ho
        · exact Or.inl (by omega)
        · exact Or.inr ho
/-- dropping a second time finds nothing -/
theorem drop_twice {l : List Al} (h : Wok l) (k : Int) : place (dropAt l k) k = none := by
  cases hp : place (dropAt l k) k with
  | none => rfl
  | some i =>
    obtain ⟨h1, h2⟩ := place_some hp
    exact absurd h2 ((mem_dropAt h k _).1 (al_mem h1)).2
theorem drops_tick (a : List Int) (d : List Bool) (n : Nat) (ha : ∀ x ∈ a, x ≤ 65535) :
    let r := tickL ((drops a d n n).length + 1) (drops a d n n) 70000
    r.2 = [] ∧ r.1.length = left d n ∧ ∀ x ∈ r.1, ∃ j : Nat, j < n ∧ x.k = j ∧ dr d j = false := by
  obtain ⟨h1, h2, h3⟩ := drops_law a d n n (Nat.le_refl _)
  obtain ⟨p, q1, q2, q3, q4⟩ := tick_law 70000 _ _ h1 (Nat.lt_succ_self _)
  have e : (tickL ((drops a d n n).length + 1) (drops a d n n) 70000).2 = [] := by
    cases hr : (tickL ((drops a d n n).length + 1) (drops a d n n) 70000).2 with
    | nil => rfl
    | cons x t =>
      exfalso
      have hx : x ∈ (tickL ((drops a d n n).length + 1) (drops a d n n) 70000).2 := by rw [hr]; simp
      have hx2 := p.mem_iff.1 (List.mem_append_right _ hx)
      obtain ⟨j, hj, rfl, _⟩ := (h3 x).1 hx2
      have := q2 _ hx
      simp only at this
      have hg : a.getD j 0 ≤ 65535 := by
        rw [List.getD_eq_getElem?_getD]
        cases hq : a[j]? with
        | none => simp
        | some y => exact ha y (List.mem_of_getElem? hq)
      omega
  refine ⟨e, ?_, fun x hx => ?_⟩
  · have := p.length_eq
    rw [e, List.append_nil] at this
    exact (this.trans h2).trans (by simp)
  · obtain ⟨j, hj, rfl, ho⟩ := (h3 x).1 (p.mem_iff.1 (List.mem_append_left _ hx))
    refine ⟨j, hj, rfl, ?_⟩
    rcases ho with ho | ho
    · omega
    · exact ho
end Wh
end Go.Proofs.Ytdboehogkmidbaa
/-! ### WheelTwo's plain law. No program in sight. -/
namespace Go.Proofs.Ytdboehogkmidbaa
set_option linter.unusedVariables false
namespace Wh
theorem nodup_of_keys {l : List Al} (h : (l.map (·.k)).Nodup) : l.Nodup := by
  unfold List.Nodup at h ⊢
  rw [List.pairwise_map] at h
  exact h.imp (fun hne e => hne (by rw [e]))
/-- two ticks give what one gives -/
theorem tick_two_one {a b : List Al} (ha : Wok a) (hb : Wok b) (hm : ∀ x, x ∈ a ↔ x ∈ b) {f t : Int} (hft : f ≤ t) :
    (tickL (a.length + 1) a f).1 ++ (tickL ((tickL (a.length + 1) a f).2.length + 1) (tickL (a.length + 1) a f).2 t).1 = (tickL (b.length + 1) b t).1 ∧
    (tickL ((tickL (a.length + 1) a f).2.length + 1) (tickL (a.length + 1) a f).2 t).2.length = (tickL (b.length + 1) b t).2.length := by
  obtain ⟨p1, q1, r1, s1, w1⟩ := tick_law f _ _ ha (Nat.lt_succ_self _)
  obtain ⟨p2, q2, r2, s2, w2⟩ := tick_law t _ _ w1 (Nat.lt_succ_self _)
  obtain ⟨p3, q3, r3, s3, w3⟩ := tick_law t _ _ hb (Nat.lt_succ_self _)
  simp only [Nat.succ_eq_add_one] at *
  obtain ⟨x1, hx1⟩ : ∃ x, x = tickL (a.length + 1) a f := ⟨_, rfl⟩
  rw [← hx1] at p1 q1 r1 s1 w1 p2 q2 r2 s2 w2 ⊢
  obtain ⟨x2, hx2⟩ : ∃ x, x = tickL (x1.2.length + 1) x1.2 t := ⟨_, rfl⟩
  rw [← hx2] at p2 q2 r2 s2 w2 ⊢
  obtain ⟨x3, hx3⟩ : ∃ x, x = tickL (b.length + 1) b t := ⟨_, rfl⟩
  rw [← hx3] at p3 q3 r3 s3 w3 ⊢
  clear hx1 hx2 hx3
  have hab : a.Perm b := (List.perm_ext_iff_of_nodup (nodup_of_keys ha.dist) (nodup_of_keys hb.dist)).2 hm
  have e1 : (x1.1 ++ x2.1).Pairwise lt := by
    rw [List.pairwise_append]
    refine ⟨s1, s2, fun x hx y hy => ?_⟩
    have h1 := q1 x hx
    have h2 := r1 y (p2.mem_iff.1 (List.mem_append_left _ hy))
    exact Or.inl (by omega)
  have hmem : ∀ x, x ∈ x1.1 ++ x2.1 ↔ x ∈ x3.1 := by
    intro x
    rw [List.mem_append]
    constructor
    · intro hx
      have h1 : x ∈ a ∧ x.t ≤ t := by
        rcases hx with hx | hx
        · exact ⟨p1.mem_iff.1 (List.mem_append_left _ hx), by have := q1 x hx; omega⟩
        · exact ⟨p1.mem_iff.1 (List.mem_append_right _ (p2.mem_iff.1 (List.mem_append_left _ hx))), q2 x hx⟩
      have h2 := p3.mem_iff.2 ((hm x).1 h1.1)
      rcases List.mem_append.1 h2 with h3 | h3
      · exact h3
      · have := r3 x h3; omega
    · intro hx
      have h1 := p1.mem_iff.2 ((hm x).2 (p3.mem_iff.1 (List.mem_append_left _ hx)))
      rcases List.mem_append.1 h1 with h2 | h2
      · exact Or.inl h2
      · have h3 := p2.mem_iff.2 h2
        rcases List.mem_append.1 h3 with h4 | h4
        · exact Or.inr h4
        · have h5 := r2 x h4
          have h6 := q3 x hx
          omega
  have nd : ∀ {l : List Al}, l.Pairwise lt → l.Nodup := fun {l} h => h.imp (fun {x y} h1 e => by subst e; unfold lt at h1; omega)
  have e2 := sorted_eq e1 s3 ((List.perm_ext_iff_of_nodup (nd e1) (nd s3)).2 hmem)
  refine ⟨e2, ?_⟩
  have l1 := p1.length_eq
  have l2 := p2.length_eq
  have l3 := p3.length_eq
  have l4 := hab.length_eq
  have l5 := congrArg List.length e2
  rw [List.length_append] at l1 l2 l3 l5
  omega
theorem tick_len {l : List Al} (h : Wok l) (t : Int) : (tickL (l.length + 1) l t).1.length ≤ l.length := by
  obtain ⟨p, _⟩ := tick_law t _ _ h (Nat.lt_succ_self _)
  have := p.length_eq
  rw [List.length_append] at this
  simp only [Nat.succ_eq_add_one] at this
  omega
/-- the two wheels of WheelTwo: what they hold is the same -/
def anew (q : List Int) (N num : Nat) (v : Int) : List Al := if num < N then setL (fill q N) num v else fill q N
def anew2 (q : List Int) (N num : Nat) (v : Int) : List Al := if num < N then setL (setL (fill q N) num 70000) num v else fill q N
theorem anew_wok (q : List Int) (N num : Nat) (v : Int) : Wok (anew q N num v) := by
  unfold anew
  split
  · exact (fill_law q N).1.set _ _
  · exact (fill_law q N).1
theorem anew2_wok (q : List Int) (N num : Nat) (v : Int) : Wok (anew2 q N num v) := by
  unfold anew2
  split
  · exact ((fill_law q N).1.set _ _).set _ _
  · exact (fill_law q N).1
theorem anew_mem (q : List Int) (N num : Nat) (v : Int) (x : Al) : x ∈ anew2 q N num v ↔ x ∈ anew q N num v := by
  unfold anew anew2
  split
  · have h := (fill_law q N).1
    rw [mem_set (h.set _ _).dist, mem_set h.dist, mem_set h.dist]
    constructor
    · rintro (h1 | ⟨h1 | h1, h2⟩)
      · exact Or.inl h1
      · rw [h1] at h2; exact absurd rfl h2
      · exact Or.inr h1
    · rintro (h1 | h1)
      · exact Or.inl h1
      · exact Or.inr ⟨Or.inr h1, h1.2⟩
  · rfl
theorem fill_some {q : List Int} {N num : Nat} (h : num < N) : (place (fill q N) num).isSome :=
  place_of_mem (((fill_law q N).2.2 _).2 ⟨num, h, rfl⟩) rfl
theorem setR_some {l : List Al} {k t : Int} (hk : (place l k).isSome) (h0 : 0 ≤ k) (h1 : k ≤ 2147483647) (h2 : 0 < t) (h3 : t ≤ 1099511627776) : setR l 0 k t = (0, setL l k t) := by
  unfold setR
  rw [if_neg (by omega), if_neg (by omega), if_neg]
  rintro ⟨h4, _⟩
  cases hp : place l k with
  | none => rw [hp] at hk; cases hk
  | some i => rw [hp] at h4; cases h4
theorem set_isSome {l : List Al} (h : Wok l) (k t : Int) : (place (setL l k t) k).isSome :=
  place_of_mem ((mem_set h.dist ⟨k, t⟩).2 (Or.inl rfl)) rfl
end Wh
end Go.Proofs.Ytdboehogkmidbaa
/-! ### The reference's wheel over lists: what its Set, Drop and Tick leave, beside the heap. No program in sight. -/
namespace Go.Proofs.Ytdboehogkmidbaa
set_option linter.unusedVariables false
namespace Wh
/-- the reference's list without a place -/
def cut (l : List Al) (i : Nat) : List Al := l.take i ++ l.drop (i + 1)
theorem cut_len {l : List Al} {i : Nat} (h : i < l.length) : (cut l i).length = l.length - 1 := by unfold cut; simp; omega
theorem cut_perm {l : List Al} {i : Nat} (h : i < l.length) : (cut l i ++ [al l i]).Perm l := by
  have e : l = l.take i ++ (al l i :: l.drop (i + 1)) := by rw [al_lt h]; simp
  unfold cut
  conv => rhs; rw [e]
  rw [List.append_assoc]
  exact (List.perm_append_singleton _ _).append_left _
theorem cut_nodup {l : List Al} {i : Nat} (hd : (l.map (·.k)).Nodup) (h : i < l.length) : ((cut l i).map (·.k)).Nodup := by
  have h1 : ((cut l i ++ [al l i]).map (·.k)).Nodup := Wok.perm hd (cut_perm h)
  rw [List.map_append] at h1
  exact (List.nodup_append.1 h1).1
theorem mem_cut {l : List Al} {i : Nat} (hd : (l.map (·.k)).Nodup) (h : i < l.length) (x : Al) : x ∈ cut l i ↔ x ∈ l ∧ x.k ≠ (al l i).k := by
  have hp := cut_perm h
  have h1 : ((cut l i ++ [al l i]).map (·.k)).Nodup := Wok.perm hd hp
  rw [List.map_append, List.nodup_append] at h1
  constructor
  · intro hx
    exact ⟨hp.mem_iff.1 (List.mem_append_left _ hx), h1.2.2 _ (List.mem_map_of_mem hx) _ (by simp)⟩
  · rintro ⟨hx, hk⟩
    rcases List.mem_append.1 (hp.mem_iff.2 hx) with h2 | h2
    · exact h2
    · rw [List.mem_singleton] at h2
      exact absurd (by rw [h2]) hk
/-- the reference's Drop -/
def rdrop (l : List Al) (k : Int) : Int × List Al := match place l k with | some i => (0, cut l i) | none => (9, l)
/-- the reference's Set -/
def rput (l : List Al) (k t : Int) : List Al := (match place l k with | some i => cut l i | none => l) ++ [⟨k, t⟩]
def rset (l : List Al) (now k t : Int) : Int × List Al :=
  if ¬ (0 ≤ k ∧ k ≤ 2147483647 ∧ 0 ≤ t ∧ t ≤ 1099511627776) then (1, l) else if t ≤ now then (14, l) else if (place l k).isNone ∧ l.length = 256 then (8, l) else (0, rput l k t)
/-- what the reference holds beside the heap -/
structure Twin (l r : List Al) : Prop where
  ok : Wok l
  dist : (r.map (·.k)).Nodup
  perm : r.Perm l
theorem Twin.len {l r : List Al} (h : Twin l r) : r.length = l.length := h.perm.length_eq
theorem Twin.nil : Twin [] [] := ⟨Wok.nil, by simp, List.Perm.refl _⟩
theorem perm_of_mem {l r : List Al} (h1 : (l.map (·.k)).Nodup) (h2 : (r.map (·.k)).Nodup) (h : ∀ x, x ∈ r ↔ x ∈ l) : r.Perm l :=
  (List.perm_ext_iff_of_nodup (nodup_of_keys h2) (nodup_of_keys h1)).2 h
/-- an alarm of a number, in both -/
theorem Twin.place {l r : List Al} (h : Twin l r) (k : Int) : (place l k = none ∧ place r k = none) ∨ ∃ i j, place l k = some i ∧ place r k = some j ∧ al l i = al r j := by
  cases hr : Wh.place r k with
  | none =>
    left
    refine ⟨?_, rfl⟩
    cases hl : Wh.place l k with
    | none => rfl
    | some i =>
      obtain ⟨h1, h2⟩ := place_some hl
      exact absurd h2 (place_none hr _ (h.perm.mem_iff.2 (al_mem h1)))
  | some j =>
    right
    obtain ⟨h1, h2⟩ := place_some hr
    have h3 := h.perm.mem_iff.1 (al_mem h1)
    have h4 := place_of_mem h3 h2
    cases hl : Wh.place l k with
    | none => rw [hl] at h4; cases h4
    | some i =>
      obtain ⟨h5, h6⟩ := place_some hl
      exact ⟨i, j, rfl, rfl, key_inj h.ok.dist (al_mem h5) h3 (by rw [h6, h2])⟩
theorem Twin.set {l r : List Al} (h : Twin l r) (now k t : Int) : (setR l now k t).1 = (rset r now k t).1 ∧ Twin (setR l now k t).2 (rset r now k t).2 := by
  unfold setR rset
  rw [h.len]
  have hn : (Wh.place l k).isNone = (Wh.place r k).isNone := by
    rcases h.place k with ⟨h1, h2⟩ | ⟨i, j, h1, h2, _⟩
    · rw [h1, h2]
    · rw [h1, h2]; rfl
  rw [hn]
  split
  · exact ⟨rfl, h⟩
  · split
    · exact ⟨rfl, h⟩
    · split
      · exact ⟨rfl, h⟩
      · refine ⟨rfl, h.ok.set k t, ?_, ?_⟩
        all_goals
          have hd2 : ((rput r k t).map (·.k)).Nodup := by
            unfold rput
            rw [List.map_append, List.nodup_append]
            cases hr : Wh.place r k with
            | none =>
              simp only
              refine ⟨h.dist, by simp, fun a ha b hb => ?_⟩
              obtain ⟨y, hy, rfl⟩ := List.mem_map.1 ha
              simp only [List.map_cons, List.map_nil, List.mem_singleton] at hb
              subst hb
              exact place_none hr y hy
            | some j =>
              obtain ⟨hj, hk⟩ := place_some hr
              simp only
              refine ⟨cut_nodup h.dist hj, by simp, fun a ha b hb => ?_⟩
              obtain ⟨y, hy, rfl⟩ := List.mem_map.1 ha
              simp only [List.map_cons, List.map_nil, List.mem_singleton] at hb
              subst hb
              rw [← hk]
              exact ((mem_cut h.dist hj y).1 hy).2
        · exact hd2
        · refine perm_of_mem (h.ok.set k t).dist hd2 (fun x => ?_)
          rw [mem_set h.ok.dist]
          unfold rput
          rw [List.mem_append, List.mem_singleton]
          cases hr : Wh.place r k with
          | none =>
            simp only
            constructor
            · rintro (h1 | h1)
              · exact Or.inr ⟨h.perm.mem_iff.1 h1, place_none hr x h1⟩
              · exact Or.inl h1
            · rintro (h1 | h1)
              · exact Or.inr h1
              · exact Or.inl (h.perm.mem_iff.2 h1.1)
          | some j =>
            obtain ⟨hj, hk⟩ := place_some hr
            simp only
            rw [mem_cut h.dist hj, hk]
            constructor
            · rintro (h1 | h1)
              · exact Or.inr ⟨h.perm.mem_iff.1 h1.1, h1.2⟩
              · exact Or.inl h1
            · rintro (h1 | h1)
              · exact Or.inr h1
              · exact Or.inl ⟨h.perm.mem_iff.2 h1.1, h1.2⟩
/-- what the program's Drop answers -/
def dropE (l : List Al) (k : Int) : Int := match Wh.place l k with | some _ => 0 | none => 9
theorem Twin.drop {l r : List Al} (h : Twin l r) (k : Int) : dropE l k = (rdrop r k).1 ∧ Twin (dropAt l k) (rdrop r k).2 := by
  unfold rdrop dropE dropAt
  rcases h.place k with ⟨h1, h2⟩ | ⟨i, j, h1, h2, h3⟩
  · rw [h1, h2]
    exact ⟨rfl, h⟩
  · rw [h1, h2]
    obtain ⟨hi, hk⟩ := place_some h1
    obtain ⟨hj, hk2⟩ := place_some h2
    refine ⟨rfl, h.ok.rem hi, cut_nodup h.dist hj, perm_of_mem (h.ok.rem hi).dist (cut_nodup h.dist hj) (fun x => ?_)⟩
    rw [mem_cut h.dist hj, mem_rem h.ok.dist hi, hk, hk2, h.perm.mem_iff]
/-- the reference's tick: what is due, o, and what stays, r' -/
structure RTick (r : List Al) (t : Int) (o r' : List Al) : Prop where
  dist : (r'.map (·.k)).Nodup
  perm : (o ++ r').Perm r
  due : ∀ x ∈ o, x.t ≤ t
  sort : o.Pairwise lt
  low : ∀ x ∈ o, ∀ y ∈ r', lt x y
/-- the best place so far -/
def Best (r : List Al) (t : Int) (i : Nat) (b : Int) : Prop :=
  (b = -1 ∧ ∀ j, j < i → t < (al r j).t) ∨ ∃ p : Nat, b = p ∧ p < i ∧ (al r p).t ≤ t ∧ ∀ j, j < i → (al r j).t ≤ t → ¬ lt (al r j) (al r p)
theorem Best.start (r : List Al) (t : Int) : Best r t 0 (-1) := Or.inl ⟨rfl, fun j h => absurd h (by omega)⟩
theorem RTick.start {r : List Al} (h : (r.map (·.k)).Nodup) (t : Int) : RTick r t [] r := ⟨h, List.Perm.refl _, by simp, List.Pairwise.nil, by simp⟩
theorem RTick.step {r o r' : List Al} {t : Int} (h : RTick r t o r') {p : Nat} (hp : p < r'.length) (ht : (al r' p).t ≤ t) (hb : ∀ j, j < r'.length → (al r' j).t ≤ t → ¬ lt (al r' j) (al r' p)) : RTick r t (o ++ [al r' p]) (cut r' p) := by
  refine ⟨cut_nodup h.dist hp, ?_, ?_, ?_, ?_⟩
  · rw [List.append_assoc]
    refine List.Perm.trans ?_ h.perm
    refine List.Perm.append_left _ ?_
    exact (List.perm_append_comm).trans (cut_perm hp)
  · intro x hx
    rcases List.mem_append.1 hx with h1 | h1
    · exact h.due x h1
    · rw [List.mem_singleton] at h1; rw [h1]; exact ht
  · rw [List.pairwise_append]
    refine ⟨h.sort, List.pairwise_singleton _ _, fun x hx y hy => ?_⟩
    rw [List.mem_singleton] at hy
    rw [hy]
    exact h.low x hx _ (al_mem hp)
  · intro x hx y hy
    obtain ⟨hy1, hy2⟩ := (mem_cut h.dist hp y).1 hy
    rcases List.mem_append.1 hx with h1 | h1
    · exact h.low x h1 y hy1
    · rw [List.mem_singleton] at h1
      rw [h1]
      by_cases hyt : y.t ≤ t
      · obtain ⟨j, hj, rfl⟩ := mem_al hy1
        exact lt_total (fun e => hy2 e.symm) (hb j hj hyt) 
      · exact Or.inl (by omega)
theorem RTick.same {l r o r' : List Al} {t : Int} (h : Twin l r) (hr : RTick r t o r') (hs : ∀ j, j < r'.length → t < (al r' j).t) :
    o = (tickL (l.length + 1) l t).1 ∧ Twin (tickL (l.length + 1) l t).2 r' := by
  obtain ⟨p1, q1, r1, s1, w1⟩ := tick_law t _ _ h.ok (Nat.lt_succ_self _)
  simp only [Nat.succ_eq_add_one] at *
  obtain ⟨x, hx⟩ : ∃ x, x = tickL (l.length + 1) l t := ⟨_, rfl⟩
  rw [← hx] at p1 q1 r1 s1 w1 ⊢
  have hr' : ∀ y ∈ r', t < y.t := by
    intro y hy
    obtain ⟨j, hj, rfl⟩ := mem_al hy
    exact hs j hj
  have hp : (o ++ r').Perm (x.1 ++ x.2) := (hr.perm.trans h.perm).trans p1.symm
  have hm1 : ∀ y, y ∈ o ↔ y ∈ x.1 := by
    intro y
    constructor
    · intro hy
      rcases List.mem_append.1 (hp.mem_iff.1 (List.mem_append_left _ hy)) with h1 | h1
      · exact h1
      · have := r1 y h1; have := hr.due y hy; omega
    · intro hy
      rcases List.mem_append.1 (hp.mem_iff.2 (List.mem_append_left _ hy)) with h1 | h1
      · exact h1
      · have := hr' y h1; have := q1 y hy; omega
  have nd : ∀ {l : List Al}, l.Pairwise lt → l.Nodup := fun {l} h => h.imp (fun {x y} h1 e => by subst e; unfold lt at h1; omega)
  have e := sorted_eq hr.sort s1 ((List.perm_ext_iff_of_nodup (nd hr.sort) (nd s1)).2 hm1)
  refine ⟨e, w1, hr.dist, perm_of_mem w1.dist hr.dist (fun y => ?_)⟩
  constructor
  · intro hy
    rcases List.mem_append.1 (hp.mem_iff.1 (List.mem_append_right _ hy)) with h1 | h1
    · have := hr' y hy; have := q1 y h1; omega
    · exact h1
  · intro hy
    rcases List.mem_append.1 (hp.mem_iff.2 (List.mem_append_right _ hy)) with h1 | h1
    · have := r1 y hy; have := hr.due y h1; omega
    · exact h1
/-- a step of the search -/
theorem Best.skip {r : List Al} {t : Int} {i : Nat} {b : Int} (h : Best r t i b) (hx : t < (al r i).t ∨ ∃ p : Nat, b = p ∧ ¬ lt (al r i) (al r p)) : Best r t (i + 1) b := by
  rcases h with ⟨h1, h2⟩ | ⟨p, h1, h2, h3, h4⟩
  · refine Or.inl ⟨h1, fun j hj => ?_⟩
    by_cases e : j = i
    · subst e
      rcases hx with hx | ⟨p, hp, _⟩
      · exact hx
      · omega
    · exact h2 j (by omega)
  · refine Or.inr ⟨p, h1, by omega, h3, fun j hj ht => ?_⟩
    by_cases e : j = i
    · subst e
      rcases hx with hx | ⟨q, hq, hl⟩
      · omega
      · obtain rfl : q = p := by omega
        exact hl
    · exact h4 j (by omega) ht
theorem Best.take {r : List Al} {t : Int} {i : Nat} {b : Int} (h : Best r t i b) (ht : (al r i).t ≤ t) (hx : b = -1 ∨ ∃ p : Nat, b = p ∧ lt (al r i) (al r p)) : Best r t (i + 1) i := by
  refine Or.inr ⟨i, rfl, by omega, ht, fun j hj hjt => ?_⟩
  by_cases e : j = i
  · rw [e]; exact lt_irrefl _
  · rcases h with ⟨h1, h2⟩ | ⟨p, h1, h2, h3, h4⟩
    · have := h2 j (by omega); omega
    · rcases hx with hx | ⟨q, hq, hl⟩
      · omega
      · obtain rfl : q = p := by omega
        intro hlt
        exact h4 j (by omega) hjt (lt_trans hlt hl)
end Wh
end Go.Proofs.Ytdboehogkmidbaa
/-! ### Two wheels beside one another: what one of them does leaves the other one. Contracts over W2. -/
namespace Go.Proofs.Ytdboehogkmidbaa
open Go.RowKit
set_option linter.unusedVariables false
theorem own_block {w w' : World} {b n sz : Nat} {e : TypeId} {v : Value} {xs : List Value} (h : w.ownsRow b e sz v n xs) (hk : ∀ g, v.ownBlock = some g → g < w.heap.size → w'.heap[g]? = w.heap[g]?) : w'.ownsRow b e sz v n xs := by
  rcases h with ⟨h1, h2 | ⟨g, cap, cur, e1, h3, h4, h5⟩⟩
  · exact ⟨h1, .inl h2⟩
  · exact ⟨h1, .inr ⟨g, cap, cur, e1, h3, (hk g (by subst e1; rfl) (Array.getElem?_eq_some_iff.1 h4).1).trans h4, h5⟩⟩
section
variable {w w' : World} {L : Loc} {c : Nat} {es : List Mi.E} {ck : Nat} {l : List Wh.Al} {now : Int}
theorem Loc.own_A {L : Loc} {n c g : Nat} (h : (Value.slice L.A n c).ownBlock = some g) : L.own g := by
  unfold Loc.A at h
  cases hr : L.gr with
  | none => rw [hr] at h; cases h
  | some k =>
    rw [hr] at h
    have h2 : some k = some g := h
    injection h2 with h2
    subst h2
    exact Or.inr (Or.inr hr)
/-- a wheel whose own blocks stay -/
theorem WM.keep (h : WM w L c es ck l now) (hk : ∀ k, L.own k → k < w.heap.size → w'.heap[k]? = w.heap[k]?) : WM w' L c es ck l now :=
  ⟨(hk _ (Or.inl rfl) h.box.lt).trans h.box, own_block h.row (fun g hg hl => hk g (Loc.own_A hg) hl), ⟨(hk _ (Or.inr (Or.inl rfl)) h.map.lt).trans h.map.blk, h.map.ok⟩, h.dist, h.pl, h.sm⟩
theorem WM.own_lt (h : WM w L c es ck l now) {k : Nat} (hk : L.own k) : k < w.heap.size := by
  rcases hk with rfl | rfl | hk
  · exact h.box.lt
  · exact h.map.lt
  · rcases h.row.2 with ⟨hv, _⟩ | ⟨g, cap, cur, hv, hb, hg, _⟩
    · injection hv with hA _ _
      unfold Loc.A at hA
      rw [hk] at hA
      cases hA
    · injection hv with hA _ _
      unfold Loc.A at hA
      rw [hk] at hA
      injection hA with hA
      injection hA with hA
      subst hA
      exact (Array.getElem?_eq_some_iff.1 hg).1
/-- Set, whatever it answers -/
theorem WM.set (h : WM w L c es ck l now) (k t : Int) :
    Calls Try.prog 20 #[.pointer (some ⟨L.gw, 0, none⟩), .int .i64 k, .int .i64 t] w fun e w' => e = .returned (.int .i64 (Wh.setR l now k t).1) ∧ Wgo w L (Wh.setR l now k t).2 now w' := by
  have h0 : Wgo w L l now w := h.stay (Below.refl _ _)
  unfold Wh.setR
  by_cases hb : ¬ (0 ≤ k ∧ k ≤ 2147483647 ∧ 0 ≤ t ∧ t ≤ 1099511627776)
  · rw [if_pos hb]
    exact (set_bad L.gw hb).mono (by rintro e w' ⟨rfl, rfl⟩; exact ⟨rfl, h0⟩)
  · rw [if_neg hb]
    obtain ⟨h0', h1, h2, h3⟩ := Decidable.not_not.1 hb
    by_cases hn : t ≤ now
    · rw [if_pos hn]
      exact (h.set_late h0' h1 h2 h3 hn).mono (by rintro e w' ⟨rfl, rfl⟩; exact ⟨rfl, h0⟩)
    · rw [if_neg hn]
      cases hk : Wh.place l k with
      | some i =>
        rw [if_neg (by simp)]
        exact h.set_some hk h0' h1 h2 h3 (by omega)
      | none =>
        have hs := h.sm
        by_cases h5 : l.length = 256
        · rw [if_pos ⟨by simp, h5⟩]
          exact (h.set_full hk h0' h1 h2 h3 (by omega) h5).mono (by rintro e w' ⟨rfl, rfl⟩; exact ⟨rfl, h0⟩)
        · rw [if_neg (fun q => h5 q.2)]
          exact h.set_new hk h0' h1 h2 h3 (by omega) (by omega)
end
/-- two wheels, at ga and gb; of w only new blocks are others -/
structure W2 (w0 : World) (ga : Nat) (la : List Wh.Al) (na : Int) (gb : Nat) (lb : List Wh.Al) (nb : Int) (w : World) : Prop where
  bel : Below w0.heap.size w0 w
  wh : ∃ A ca ea ka B cb eb kb, A.gw = ga ∧ B.gw = gb ∧ WM w A ca ea ka la na ∧ WM w B cb eb kb lb nb ∧ (∀ k, A.own k → w0.heap.size ≤ k) ∧ (∀ k, B.own k → w0.heap.size ≤ k) ∧ ∀ k, A.own k → ¬ B.own k
section
variable {w0 w w' : World} {ga gb : Nat} {la lb la' : List Wh.Al} {na nb na' : Int}
theorem W2.symm (h : W2 w0 ga la na gb lb nb w) : W2 w0 gb lb nb ga la na w := by
  obtain ⟨A, ca, ea, ka, B, cb, eb, kb, h1, h2, h3, h4, h5, h6, h7⟩ := h.wh
  exact ⟨h.bel, B, cb, eb, kb, A, ca, ea, ka, h2, h1, h4, h3, h6, h5, fun k hb ha => h7 k ha hb⟩
theorem W2.below (h : W2 w0 ga la na gb lb nb w) (hb : Below w.heap.size w w') : W2 w0 ga la na gb lb nb w' := by
  obtain ⟨A, ca, ea, ka, B, cb, eb, kb, h1, h2, h3, h4, h5, h6, h7⟩ := h.wh
  exact ⟨bel_then h.bel hb, A, ca, ea, ka, B, cb, eb, kb, h1, h2, h3.below hb, h4.below hb, h5, h6, h7⟩
/-- a wheel that is made beside one -/
theorem W2.new (w : World) : ∀ {gw : Nat} {l : List Wh.Al} {now : Int}, WF w0 gw l now w →
    Calls Try.prog 17 #[] w fun e w' => ∃ gb, e = .returned (.pointer (some ⟨gb, 0, none⟩)) ∧ W2 w0 gw l now gb [] 0 w' := by
  intro gw l now h
  obtain ⟨L, c, es, ck, hg, hW, hL⟩ := h.wh
  refine (wnew_spec w).mono ?_
  rintro e w' ⟨gb, gm, rfl, h1, h2, hb, hN⟩
  have hs := h.bel.size
  refine ⟨gb, rfl, bel_then h.bel hb, L, c, es, ck, ⟨gb, none, gm⟩, 0, [], 0, hg, rfl, hW.below hb, hN, hL, fun k hk => ?_, fun k ha hk => ?_⟩
  · rcases hk with e | e | e
    · rw [e]; exact Nat.le_trans hs h1
    · rw [e]; exact Nat.le_trans hs h2
    · cases e
  · have hlt := hW.own_lt ha
    rcases hk with e | e | e
    · subst e; omega
    · subst e; omega
    · cases e
theorem W2.go {A : Loc} {ca : Nat} {ea : List Mi.E} {ka : Nat} {B : Loc} {cb : Nat} {eb : List Mi.E} {kb : Nat} (hbel : Below w0.heap.size w0 w) (h1 : A.gw = ga) (h2 : B.gw = gb) (h3 : WM w A ca ea ka la na) (h4 : WM w B cb eb kb lb nb) (h5 : ∀ k, A.own k → w0.heap.size ≤ k) (h6 : ∀ k, B.own k → w0.heap.size ≤ k) (h7 : ∀ k, A.own k → ¬ B.own k)
    (hg : Wgo w A la' na' w') : W2 w0 ga la' na' gb lb nb w' := by
  obtain ⟨A', c', es', ck', hW, hS⟩ := hg
  refine ⟨hS.keeps.below hbel h5 hbel.size, A', c', es', ck', B, cb, eb, kb, hS.gw.trans h1, h2, hW, h4.keep (fun k hk hl => hS.keeps.block k hl (fun ha => h7 k ha hk)), hS.own_ge h5 hbel.size, h6, fun k ha hb => ?_⟩
  have hlt := h4.own_lt hb
  rcases ha with e | e | e
  · exact h7 k (Or.inl (e.trans hS.gw)) hb
  · exact h7 k (Or.inr (Or.inl (e.trans hS.gm))) hb
  · rcases hS.gr k e with q | q
    · exact h7 k (Or.inr (Or.inr q)) hb
    · omega
theorem W2.set (h : W2 w0 ga la na gb lb nb w) (k t : Int) :
    Calls Try.prog 20 #[.pointer (some ⟨ga, 0, none⟩), .int .i64 k, .int .i64 t] w fun e w' => e = .returned (.int .i64 (Wh.setR la na k t).1) ∧ W2 w0 ga (Wh.setR la na k t).2 na gb lb nb w' := by
  obtain ⟨A, ca, ea, ka, B, cb, eb, kb, h1, h2, h3, h4, h5, h6, h7⟩ := h.wh
  subst h1
  exact (h3.set k t).mono (by rintro e w' ⟨rfl, hg⟩; exact ⟨rfl, W2.go h.bel rfl h2 h3 h4 h5 h6 h7 hg⟩)
/-- Tick within the bounds, beside another wheel -/
def WTick2 (w0 w : World) (ga : Nat) (r : List Wh.Al × List Wh.Al) (t : Int) (gb : Nat) (lb : List Wh.Al) (nb : Int) (e : Ending) (w' : World) : Prop :=
  ∃ B d, e = .returned (.tuple #[.slice B r.1.length d, .int .i64 0]) ∧ w'.ownsRow w.heap.size 3 1 (.slice B r.1.length d) r.1.length (ks r.1) ∧ W2 w0 ga r.2 t gb lb nb w' ∧ ∀ b v n xs, w.ownsRow b 3 1 v n xs → w'.ownsRow b 3 1 v n xs
theorem W2.tick (h : W2 w0 ga la na gb lb nb w) {t : Int} (h0 : na ≤ t) (ht : t ≤ 1099511627776) :
    Calls Try.prog 25 #[.pointer (some ⟨ga, 0, none⟩), .int .i64 t] w (WTick2 w0 w ga (Wh.tickL (la.length + 1) la t) t gb lb nb) := by
  obtain ⟨A, ca, ea, ka, B, cb, eb, kb, h1, h2, h3, h4, h5, h6, h7⟩ := h.wh
  subst h1
  refine (h3.tick h0 ht).mono ?_
  rintro e w' ⟨B, d, rfl, hO, hg⟩
  refine ⟨B, d, rfl, hO, W2.go h.bel rfl h2 h3 h4 h5 h6 h7 hg, fun b v n xs ho => ?_⟩
  obtain ⟨L', c', es', ck', q1, q2⟩ := hg
  exact own_step h3 ho q2
theorem W2.sm (h : W2 w0 ga la na gb lb nb w) : la.length ≤ 256 ∧ lb.length ≤ 256 := by
  obtain ⟨A, ca, ea, ka, B, cb, eb, kb, h1, h2, h3, h4, h5, h6, h7⟩ := h.wh
  exact ⟨h3.sm, h4.sm⟩
end
end Go.Proofs.Ytdboehogkmidbaa
/-! ### A wheel beside other blocks: what its calls leave alone. No law in sight. -/
namespace Go.Proofs.Ytdboehogkmidbaa
open Go.RowKit
set_option linter.unusedVariables false
/-- what a wheel's calls leave alone: blocks and rows of other types -/
structure Fr (w w' : World) : Prop where
  blk : ∀ g T vs, BlkV w g T vs → T ≠ 79 → T ≠ 86 → BlkV w' g T vs
  row : ∀ b e sz v n xs, w.ownsRow b e sz v n xs → e ≠ 79 → e ≠ 86 → w'.ownsRow b e sz v n xs
section
variable {w0 w w' : World} {L : Loc} {c : Nat} {es : List Mi.E} {ck : Nat} {l l' : List Wh.Al} {now now' : Int} {gw : Nat}
theorem WM.not_own (h : WM w L c es ck l now) {g : Nat} {T : TypeId} {vs : List Value} (hB : BlkV w g T vs) (h1 : T ≠ 79) (h2 : T ≠ 86) : ¬ L.own g := by
  rintro (rfl | rfl | hr)
  · have h3 := h.box
    unfold BlkV at h3 hB
    rw [hB] at h3
    injection h3 with h3
    injection h3 with _ h3
    exact h1 h3
  · have h3 := h.map.blk
    unfold BlkV at hB
    rw [hB] at h3
    cases h3
  · have h3 : (Value.slice L.A l.length c).ownBlock = some g := by unfold Loc.A; rw [hr]; rfl
    exact own_ne h.row hB (Ne.symm h2) h3
theorem Step.fr {L' : Loc} (h : WM w L c es ck l now) (hS : Step w w' L L') : Fr w w' := by
  have hb : ∀ g T vs, BlkV w g T vs → T ≠ 79 → T ≠ 86 → BlkV w' g T vs := fun g T vs hB h1 h2 =>
    (hS.keeps.block g hB.lt (h.not_own hB h1 h2)).trans hB
  refine ⟨hb, fun b e sz v n xs ho h1 h2 => own_block ho (fun g hg hl => ?_)⟩
  rcases ho.2 with ⟨rfl, _⟩ | ⟨g', cap, cur, rfl, _, hg', _⟩
  · cases hg
  · have : g' = g := by injection hg
    subst this
    have hB : BlkV w g' e cur.toList := by unfold BlkV; simpa using hg'
    exact (hb g' e _ hB h1 h2).trans hB.symm
theorem Fr.of_below (h : Below w.heap.size w w') : Fr w w' := ⟨fun g T vs hB _ _ => hB.below h, fun b e sz v n xs ho _ _ => own_below ho h⟩
theorem WF.setK (h : WF w0 gw l now w) (k t : Int) :
    Calls Try.prog 20 #[.pointer (some ⟨gw, 0, none⟩), .int .i64 k, .int .i64 t] w fun e w' => e = .returned (.int .i64 (Wh.setR l now k t).1) ∧ WF w0 gw (Wh.setR l now k t).2 now w' ∧ Fr w w' := by
  obtain ⟨L, c, es, ck, hg, hW, hL⟩ := h.wh
  subst hg
  refine (hW.set k t).mono ?_
  rintro e w' ⟨rfl, hG⟩
  obtain ⟨L', c', es', ck', q1, q2⟩ := id hG
  exact ⟨rfl, WF.go h.bel rfl hL hG, Step.fr hW q2⟩
theorem WF.dropK (h : WF w0 gw l now w) (k : Int) :
    Calls Try.prog 22 #[.pointer (some ⟨gw, 0, none⟩), .int .i64 k] w fun e w' =>
      e = .returned (.int .i64 (Wh.dropE l k)) ∧ WF w0 gw (Wh.dropAt l k) now w' ∧ Fr w w' := by
  unfold Wh.dropE Wh.dropAt
  obtain ⟨L, c, es, ck, hg, hW, hL⟩ := h.wh
  subst hg
  cases hk : Wh.place l k with
  | some i => exact (hW.drop_some hk).mono (by rintro e w' ⟨rfl, hg⟩; obtain ⟨L', c', es', ck', q1, q2⟩ := id hg; exact ⟨rfl, WF.go h.bel rfl hL hg, Step.fr hW q2⟩)
  | none => exact (hW.drop_none hk).mono (by rintro e w' ⟨rfl, rfl⟩; exact ⟨rfl, h, Fr.of_below (Below.refl _ _)⟩)
def WTickK (w0 w : World) (gw : Nat) (r : List Wh.Al × List Wh.Al) (t : Int) (e : Ending) (w' : World) : Prop :=
  ∃ B d, e = .returned (.tuple #[.slice B r.1.length d, .int .i64 0]) ∧ Rd w' 1 B r.1.length (ks r.1) ∧ WF w0 gw r.2 t w' ∧ Fr w w'
theorem WF.tickK (h : WF w0 gw l now w) {t : Int} (h0 : now ≤ t) (h1 : t ≤ 1099511627776) :
    Calls Try.prog 25 #[.pointer (some ⟨gw, 0, none⟩), .int .i64 t] w (WTickK w0 w gw (Wh.tickL (l.length + 1) l t) t) := by
  obtain ⟨L, c, es, ck, hg, hW, hL⟩ := h.wh
  subst hg
  refine (hW.tick h0 h1).mono ?_
  rintro e w' ⟨B, d, rfl, hO, hg⟩
  obtain ⟨L', c', es', ck', q1, q2⟩ := id hg
  exact ⟨B, d, rfl, Rd.of_own hO, WF.go h.bel rfl hL hg, Step.fr hW q2⟩
theorem WF.tick_bad (h : WF w0 gw l now w) {t : Int} (ht : t < now ∨ 1099511627776 < t) :
    Calls Try.prog 25 #[.pointer (some ⟨gw, 0, none⟩), .int .i64 t] w fun e w' => e = .returned (.tuple #[.slice none 0 0, .int .i64 1]) ∧ w = w' := by
  obtain ⟨L, c, es, ck, hg, hW, hL⟩ := h.wh
  subst hg
  exact hW.tick_bad ht
theorem WF.only {g : Nat} {T : TypeId} {vs : List Value} (h : WF w0 gw l now w) (hB : BlkV w g T vs) (h1 : T ≠ 79) (h2 : T ≠ 86) (ho : OnlyB g w w') (hg : w0.heap.size ≤ g) : WF w0 gw l now w' := by
  obtain ⟨L, c, es, ck, hgw, hW, hL⟩ := h.wh
  have hn := hW.not_own hB h1 h2
  exact ⟨ho.bel hg h.bel, L, c, es, ck, hgw, hW.keep (fun k hk _ => ho.block k (fun e => hn (e ▸ hk))), hL⟩
end
end Go.Proofs.Ytdboehogkmidbaa
