/- What a peer does with a segment that comes, over what both hold; the map to numbers. No program in sight. -/
import Derived.Test.YtihhcalgjkkalaaPbMap
import Derived.Test.YtihhcalgjkkalaaPeerPlain
namespace Go.Proofs.Ytihhcalgjkkalaa
open Go.RowKit
set_option linter.unusedVariables false
namespace Pb
def fl_ (t : Tc) (m : Int) : Int := Go.bits .and .i64 t.fl m
def speakC (p : Pc) (t : Tc) : Pc × Option Tc :=
  if fl_ t 2 ≠ 0 then (p, some (nodC p)) else if fl_ t 16 = 0 then (p, none) else (spokeC p t, if t.body.length = 0 then none else some (nodC (spokeC p t)))
def heardC (p : Pc) (t : Tc) : Pc := { p with st := 3, to_ := t.sp, ot := t.wi, un := p.fi, ne := Seq.step p.fi 1, wa := Seq.step t.sq 1 }
def beganC (p : Pc) (t : Tc) : Pc := { p with st := 4, ot := t.wi, un := t.ak, ne := t.ak, wa := Seq.step t.sq 1 }
def openC (p : Pc) (t : Tc) : Pc := { p with st := 4, un := t.ak }
def hearC (p : Pc) (t : Tc) : Pc × Option Tc :=
  if p.st = 1 then (if fl_ t 18 = 2 then sayC (heardC p t) 1 else (p, none))
  else if p.st = 2 then (if fl_ t 18 = 18 ∧ t.ak = Seq.step p.fi 1 then (beganC p t, some (nodC (beganC p t))) else (p, none))
  else if p.st = 3 then (if fl_ t 2 ≠ 0 then sayC p 1 else if fl_ t 16 = 0 ∨ t.ak ≠ Seq.step p.fi 1 then (p, none) else speakC (openC p t) t)
  else if p.st = 4 then speakC p t else (p, none)
def rightC (p : Pc) : Bool := Peer.within p.st 0 4 && (Peer.within p.port 0 65535 && (Peer.within p.to_ 0 65535 && (Peer.within p.wi 1 65535 && (Peer.within p.ot 0 65535 && (decide (p.d.length ≤ 65536) && (decide (p.g.length ≤ 65536) && (decide (p.st ≤ 1) || (Peer.within (Seq.dist p.fi p.un) 0 (Seq.dist p.fi p.ne) && decide (Seq.dist p.fi p.ne ≤ p.d.length + 1)))))))))
/-- a segment is for a peer, and may be heard -/
structure Fits (p : Pc) (t : Tc) : Prop where
  r : rightC p = true
  dp : t.dp = p.port
  sp : p.st = 1 ∨ t.sp = p.to_
  rst : fl_ t 4 = 0
  spr : Peer.within t.sp 0 65535 = true
  wir : Peer.within t.wi 0 65535 = true
def againC (p : Pc) : Pc := if p.st = 4 then { p with ne := p.un } else p
def doneC (p : Pc) : Bool := decide (p.st = 4) && decide (Seq.dist p.fi p.un = (p.d.length : Int) + 1)
theorem f18_18 : Go.bits .and .i64 18 18 = 18 := by decide
theorem f18_4 : Go.bits .and .i64 18 4 = 0 := by decide
theorem f2_18 : Go.bits .and .i64 2 18 = 2 := by decide
theorem f2_4 : Go.bits .and .i64 2 4 = 0 := by decide
theorem n43 : ¬ (4 : Int) = 3 := by decide
theorem n32 : ¬ (3 : Int) = 2 := by decide
theorem n41 : ¬ (4 : Nat) = 1 := by decide
theorem speakC_2 {p : Pc} {t : Tc} {n : Nat} (hf : t.fl = if n = 0 then 16 else 24) (hn : t.body.length = n) : speakC p t = (spokeC p t, if n = 0 then none else some (nodC (spokeC p t))) := by
  unfold speakC
  have h1 : fl_ t 2 = 0 := by unfold fl_; rw [hf]; split <;> decide
  have h2 : ¬ fl_ t 16 = 0 := by unfold fl_; rw [hf]; split <;> decide
  rw [if_neg (by rw [h1]; exact fun h => h rfl), if_neg h2, hn]
theorem body0 {x : Cc} {t : Sg} (hk : t.kd = 2) (h1 : 1 ≤ t.s) (h : t.s + t.n ≤ x.d0.length + 1) : (sg0 x t).body.length = t.n ∧ (sg0 x t).fl = if t.n = 0 then 16 else 24 := by
  unfold sg0
  rw [if_neg (by omega)]
  refine ⟨?_, rfl⟩
  simp only [List.length_take, List.length_drop]
  omega
theorem body1 {x : Cc} {t : Sg} (hk : t.kd = 2) (h1 : 1 ≤ t.s) (h : t.s + t.n ≤ x.d1.length + 1) : (sg1 x t).body.length = t.n ∧ (sg1 x t).fl = if t.n = 0 then 16 else 24 := by
  unfold sg1
  rw [if_neg (by omega)]
  refine ⟨?_, rfl⟩
  simp only [List.length_take, List.length_drop]
  omega
theorem nodC0 (x : Cc) (p : Sd) (h : p.st = 4) : nodC (pe0 x p) = sg0 x (nod p) := by
  unfold nodC segC pe0 sg0 nod
  simp [h]
theorem nodC1 (x : Cc) (p : Sd) (h : p.st = 4) : nodC (pe1 x p) = sg1 x (nod p) := by
  unfold nodC segC pe1 sg1 nod
  simp [h]
theorem hearC0 {x : Cc} (hx : x.ok) {p q : Sd} {t : Sg} (h : Inv x.cf p q) (ht : Ok1 x.cf q t) : hearC (pe0 x p) (sg1 x t) = (pe0 x (hear p t).1, (hear p t).2.map (sg0 x)) := by
  rcases h.a with ⟨a1, a2, a3, a4⟩ | ⟨a1, a2, a3, a4, a5⟩
  · have e : (pe0 x p).st = 2 := by simp [pe0, a1]
    rcases ht with ⟨t1, t2, t3, t4, t6⟩ | ⟨t1, t2, t3, t4, t5⟩
    · have e1 : sg1 x t = ⟨80, 5000, x.f1, off x.f0 1, 18, x.w1, []⟩ := by unfold sg1; rw [if_pos t1]
      have e2 : (hear p t) = (⟨4, 1, 1, 0⟩, some ⟨2, 1, 0, 0⟩) := by unfold hear; rw [if_neg (by omega), if_pos a1, if_pos t1]
      have e3 : beganC (pe0 x p) (sg1 x t) = pe0 x ⟨4, 1, 1, 0⟩ := by
        rw [e1]
        have s1 : Seq.step x.f1 1 = off x.f1 (1 + 0) := step_first hx.f1a hx.f1b 1
        unfold beganC pe0
        simp only [s1, a4]
        simp
      unfold hearC
      rw [if_neg (by rw [e]; decide), if_pos e, e3, e2, if_pos ⟨by rw [e1]; exact f18_18, by rw [e1]; exact (step_first hx.f0a hx.f0b 1).symm⟩]
      rw [nodC0 x _ rfl]
      rfl
    · have := h.ba t2
      omega
  · have e : (pe0 x p).st = 4 := by simp [pe0, a1]
    unfold hearC
    rw [if_neg (by rw [e]; decide), if_neg (by rw [e]; decide), if_neg (by rw [e]; decide), if_pos e]
    rcases ht with ⟨t1, t2, t3, t4, t6⟩ | ⟨t1, t2, t3, t4, t5⟩
    · have e1 : (sg1 x t).fl = 18 := by unfold sg1; rw [if_pos t1]
      have e2 : hear p t = (p, some (nod p)) := by unfold hear; rw [if_neg (by omega), if_neg (by omega), if_neg (by omega), if_pos a1, if_neg (by omega)]
      unfold speakC
      rw [if_pos (by unfold fl_; rw [e1]; decide), e2, nodC0 x p a1]
      rfl
    · have hL1 : x.cf.L1 = x.d1.length := rfl
      obtain ⟨b1, b2⟩ := body1 (x := x) t1 t3 t4
      have e2 : hear p t = speak p t := by unfold hear; rw [if_neg (by omega), if_neg (by omega), if_neg (by omega), if_pos a1, if_pos t1]
      rw [speakC_2 b2 b1, spokeC0 hx h a1 (.inr ⟨t1, t2, t3, t4, t5⟩) t1, e2, nodC0 x _ rfl]
      unfold speak
      by_cases hn : t.n = 0
      · rw [if_pos hn, if_pos hn]; rfl
      · rw [if_neg hn, if_neg hn]; rfl
theorem hearC1 {x : Cc} (hx : x.ok) {p q : Sd} {t : Sg} (h : Inv x.cf p q) (ht : Ok0 x.cf p t) : hearC (pe1 x q) (sg0 x t) = (pe1 x (hear q t).1, (hear q t).2.map (sg1 x)) := by
  have hL0 : x.cf.L0 = x.d0.length := rfl
  have hL1 : x.cf.L1 = x.d1.length := rfl
  rcases h.b with ⟨a1, a2, a3, a4⟩ | ⟨a1, a2, a3, a4⟩ | ⟨a1, a2, a3, a4, a5⟩
  · have e : pe1 x q = ⟨1, 80, 0, x.f1, 0, 0, 0, x.w1, 0, x.d1, []⟩ := by unfold pe1; rw [if_pos a1]
    rcases ht with ⟨t1, t2, t3, t4⟩ | ⟨t1, t2, t3, t4, t5⟩
    · have e1 : sg0 x t = ⟨5000, 80, x.f0, 0, 2, x.w0, []⟩ := by unfold sg0; rw [if_pos t1]
      have e2 : hear q t = (⟨3, 0, 1, 0⟩, some ⟨1, 0, 0, 0⟩) := by unfold hear; rw [if_pos a1, if_pos t1]
      have s0 : Seq.step x.f0 1 = off x.f0 (1 + 0) := step_first hx.f0a hx.f0b 1
      have s1 : Seq.step x.f1 1 = off x.f1 1 := step_first hx.f1a hx.f1b 1
      have e3 : heardC (pe1 x q) (sg0 x t) = ⟨3, 80, 5000, x.f1, x.f1, off x.f1 1, off x.f0 (1 + 0), x.w1, x.w0, x.d1, []⟩ := by
        rw [e, e1]
        unfold heardC
        simp only [s0, s1]
      have e4 : pe1 x ⟨3, 0, 1, 0⟩ = ⟨3, 80, 5000, x.f1, x.f1, off x.f1 1, off x.f0 (1 + 0), x.w1, x.w0, x.d1, []⟩ := by
        unfold pe1
        rw [if_neg (by decide)]
        simp [off_zero hx.f1a hx.f1b]
      unfold hearC
      rw [if_pos (by rw [e]), if_pos (by rw [e1]; exact f2_18), e3, e2]
      unfold sayC
      rw [if_neg n32, if_pos rfl]
      refine Prod.ext e4.symm ?_
      simp only [Option.map_some, Option.some.injEq]
      unfold sg1 segC
      rw [if_pos rfl]
    · have := h.ab t2
      omega
  · have e : (pe1 x q).st = 3 := by unfold pe1; rw [if_neg (by omega), a1]; rfl
    unfold hearC
    rw [if_neg (by rw [e]; decide), if_neg (by rw [e]; decide), if_pos e]
    rcases ht with ⟨t1, t2, t3, t4⟩ | ⟨t1, t2, t3, t4, t5⟩
    · have e1 : (sg0 x t).fl = 2 := by unfold sg0; rw [if_pos t1]
      have e2 : hear q t = (q, some ⟨1, 0, 0, 0⟩) := by unfold hear; rw [if_neg (by omega), if_neg (by omega), if_pos a1, if_neg (by omega)]
      rw [if_pos (by unfold fl_; rw [e1]; decide), e2]
      unfold sayC
      rw [if_neg (by rw [e]; decide), if_pos e]
      refine Prod.ext rfl ?_
      simp only [Option.map_some, Option.some.injEq]
      unfold sg1 segC pe1
      rw [if_neg (by omega), if_pos rfl, a4]
    · have hp0 : p.got = 0 := by
        by_cases hz : p.got = 0
        · exact hz
        · exact absurd (h.g hz) (by omega)
      have hg0 : t.g = 0 := by omega
      obtain ⟨b1, b2⟩ := body0 (x := x) t1 t3 t4
      have ek : (sg0 x t).ak = off x.f1 1 := by unfold sg0; rw [if_neg (by omega)]; simp [hg0]
      have e2 : hear q t = speak ⟨4, 1, q.v, q.got⟩ t := by unfold hear; rw [if_neg (by omega), if_neg (by omega), if_pos a1, if_pos t1, if_pos hg0]
      have e3 : openC (pe1 x q) (sg0 x t) = pe1 x ⟨4, 1, q.v, q.got⟩ := by
        unfold openC
        rw [ek]
        unfold pe1
        rw [if_neg (by omega), if_neg n41]
        rfl
      have hfi : (pe1 x q).fi = x.f1 := by unfold pe1; rw [if_neg (by omega)]
      rw [if_neg (by unfold fl_; rw [b2]; split <;> decide), if_neg (by
        rintro (k | k)
        · revert k; unfold fl_; rw [b2]; split <;> decide
        · rw [ek, hfi] at k
          exact k (step_first hx.f1a hx.f1b 1).symm), e3, speakC_2 b2 b1, e2]
      have hd0 : t.g ≤ x.d1.length := by omega
      rw [spokeC1 hx rfl t1 (by simp only; omega) (by simp only; omega) (by simp only; omega) t3 t4 hd0, nodC1 x _ rfl]
      unfold speak
      by_cases hn : t.n = 0
      · rw [if_pos hn, if_pos hn]; rfl
      · rw [if_neg hn, if_neg hn]; rfl
  · have e : (pe1 x q).st = 4 := by unfold pe1; rw [if_neg (by omega), a1]; rfl
    have hp : p.got ≤ x.cf.L1 := by rcases h.a with a | a <;> omega
    unfold hearC
    rw [if_neg (by rw [e]; decide), if_neg (by rw [e]; decide), if_neg (by rw [e]; decide), if_pos e]
    rcases ht with ⟨t1, t2, t3, t4⟩ | ⟨t1, t2, t3, t4, t5⟩
    · have e1 : (sg0 x t).fl = 2 := by unfold sg0; rw [if_pos t1]
      have e2 : hear q t = (q, some (nod q)) := by unfold hear; rw [if_neg (by omega), if_neg (by omega), if_neg (by omega), if_pos a1, if_neg (by omega)]
      unfold speakC
      rw [if_pos (by unfold fl_; rw [e1]; decide), e2, nodC1 x q a1]
      rfl
    · obtain ⟨b1, b2⟩ := body0 (x := x) t1 t3 t4
      have e2 : hear q t = speak q t := by unfold hear; rw [if_neg (by omega), if_neg (by omega), if_neg (by omega), if_pos a1, if_pos t1]
      rw [speakC_2 b2 b1, spokeC1 hx a1 t1 (by omega) (by omega) (by omega) t3 t4 (by omega), e2, nodC1 x _ rfl]
      unfold speak
      by_cases hn : t.n = 0
      · rw [if_pos hn, if_pos hn]; rfl
      · rw [if_neg hn, if_neg hn]; rfl
/-! ### right, done, again -/
theorem wi_in {n a b : Int} (h : a ≤ n) (k : n ≤ b) : Peer.within n a b = true := by unfold Peer.within; rw [decide_eq_true h, decide_eq_true k]; rfl
theorem right0 {x : Cc} (hx : x.ok) {p q : Sd} (h : Inv x.cf p q) : rightC (pe0 x p) = true := by
  have hL0 : x.cf.L0 = x.d0.length := rfl
  obtain ⟨k1, k2, k3, k4, k5, k6, k7, k8, k9, k10, k11, k12⟩ := hx
  have hv : p.u ≤ p.v ∧ p.v ≤ x.d0.length + 1 ∧ (p.st = 2 ∨ p.st = 4) := by rcases h.a with a | a <;> omega
  have e1 : Seq.dist (pe0 x p).fi (pe0 x p).un = (p.u : Int) := dist_first k1 k2 p.u (by omega)
  have e2 : Seq.dist (pe0 x p).fi (pe0 x p).ne = (p.v : Int) := dist_first k1 k2 p.v (by omega)
  have hg : (x.d1.take p.got).length ≤ 300 := by rw [List.length_take]; omega
  have e3 : (pe0 x p).st = (p.st : Int) := rfl
  have e4 : (pe0 x p).wi = (x.w0 : Int) := rfl
  have e5 : (pe0 x p).ot = if p.st = 2 then 0 else (x.w1 : Int) := rfl
  have e6 : (0 : Int) ≤ (pe0 x p).ot ∧ (pe0 x p).ot ≤ 65535 := by rw [e5]; split <;> omega
  unfold rightC
  rw [e1, e2, wi_in (by rw [e3]; omega) (by rw [e3]; omega), wi_in (n := (pe0 x p).port) (by show (0 : Int) ≤ 5000; decide) (by show (5000 : Int) ≤ _; decide), wi_in (n := (pe0 x p).to_) (by show (0 : Int) ≤ 80; decide) (by show (80 : Int) ≤ _; decide), wi_in (n := (pe0 x p).wi) (by rw [e4]; omega) (by rw [e4]; omega), wi_in e6.1 e6.2, decide_eq_true (show (pe0 x p).d.length ≤ 65536 by show x.d0.length ≤ _; omega), decide_eq_true (show (pe0 x p).g.length ≤ 65536 by show (x.d1.take p.got).length ≤ _; omega), wi_in (by omega) (by omega), decide_eq_true (show (p.v : Int) ≤ ((pe0 x p).d.length : Int) + 1 by show (p.v : Int) ≤ (x.d0.length : Int) + 1; omega)]
  simp
theorem right1 {x : Cc} (hx : x.ok) {p q : Sd} (h : Inv x.cf p q) : rightC (pe1 x q) = true := by
  have hL1 : x.cf.L1 = x.d1.length := rfl
  obtain ⟨k1, k2, k3, k4, k5, k6, k7, k8, k9, k10, k11, k12⟩ := hx
  by_cases hq : q.st = 1
  · have e : pe1 x q = ⟨1, 80, 0, x.f1, 0, 0, 0, x.w1, 0, x.d1, []⟩ := by unfold pe1; rw [if_pos hq]
    unfold rightC
    rw [e]
    simp only
    rw [wi_in (by decide) (by decide), wi_in (by decide) (by decide), wi_in (by decide) (by decide), wi_in (n := (x.w1 : Int)) (by omega) (by omega), decide_eq_true (show x.d1.length ≤ 65536 by omega)]
    simp
  · have e : pe1 x q = ⟨q.st, 80, 5000, x.f1, off x.f1 q.u, off x.f1 q.v, off x.f0 (1 + q.got), x.w1, x.w0, x.d1, x.d0.take q.got⟩ := by unfold pe1; rw [if_neg hq]
    have hv : q.u ≤ q.v ∧ q.v ≤ x.d1.length + 1 ∧ (q.st = 3 ∨ q.st = 4) := by rcases h.b with a | a | a <;> omega
    have hg : (x.d0.take q.got).length ≤ 300 := by rw [List.length_take]; omega
    unfold rightC
    rw [e]
    simp only
    rw [dist_first k3 k4 q.u (by omega), dist_first k3 k4 q.v (by omega), wi_in (by omega) (by omega), wi_in (by decide) (by decide), wi_in (by decide) (by decide), wi_in (n := (x.w1 : Int)) (by omega) (by omega), wi_in (n := (x.w0 : Int)) (by omega) (by omega), decide_eq_true (show x.d1.length ≤ 65536 by omega), decide_eq_true (show (x.d0.take q.got).length ≤ 65536 by omega), wi_in (by omega) (by omega), decide_eq_true (show (q.v : Int) ≤ (x.d1.length : Int) + 1 by omega)]
    simp
theorem fits0 {x : Cc} (hx : x.ok) {p q : Sd} {t : Sg} (h : Inv x.cf p q) (ht : Ok1 x.cf q t) : Fits (pe0 x p) (sg1 x t) := by
  have hr := right0 hx h
  obtain ⟨k1, k2, k3, k4, k5, k6, k7, k8, k9, k10, k11, k12⟩ := hx
  unfold sg1
  split
  · exact ⟨hr, rfl, .inr rfl, f18_4, wi_in (n := 80) (by decide) (by decide), wi_in (by show (0 : Int) ≤ (x.w1 : Int); omega) (by show (x.w1 : Int) ≤ _; omega)⟩
  · refine ⟨hr, rfl, .inr rfl, ?_, wi_in (n := 80) (by decide) (by decide), wi_in (by show (0 : Int) ≤ (x.w1 : Int); omega) (by show (x.w1 : Int) ≤ _; omega)⟩
    unfold fl_
    simp only
    split <;> decide
theorem fits1 {x : Cc} (hx : x.ok) {p q : Sd} {t : Sg} (h : Inv x.cf p q) (ht : Ok0 x.cf p t) : Fits (pe1 x q) (sg0 x t) := by
  have hr := right1 hx h
  have hs : (pe1 x q).port = 80 ∧ ((pe1 x q).st = 1 ∨ (5000 : Int) = (pe1 x q).to_) := by
    unfold pe1
    split
    · exact ⟨rfl, .inl rfl⟩
    · exact ⟨rfl, .inr rfl⟩
  obtain ⟨k1, k2, k3, k4, k5, k6, k7, k8, k9, k10, k11, k12⟩ := hx
  unfold sg0
  split
  · exact ⟨hr, hs.1.symm, hs.2, f2_4, wi_in (n := 5000) (by decide) (by decide), wi_in (by show (0 : Int) ≤ (x.w0 : Int); omega) (by show (x.w0 : Int) ≤ _; omega)⟩
  · refine ⟨hr, hs.1.symm, hs.2, ?_, wi_in (n := 5000) (by decide) (by decide), wi_in (by show (0 : Int) ≤ (x.w0 : Int); omega) (by show (x.w0 : Int) ≤ _; omega)⟩
    unfold fl_
    simp only
    split <;> decide
theorem againC0 (x : Cc) (p : Sd) : againC (pe0 x p) = pe0 x (again p) := by
  unfold againC again
  by_cases h : p.st = 4
  · rw [if_pos h, if_pos (show (pe0 x p).st = 4 by show (p.st : Int) = 4; omega)]
    unfold pe0
    simp [h]
  · rw [if_neg h, if_neg (show ¬ (pe0 x p).st = 4 by show ¬ (p.st : Int) = 4; omega)]
theorem againC1 (x : Cc) (q : Sd) : againC (pe1 x q) = pe1 x (again q) := by
  unfold againC again
  by_cases h : q.st = 4
  · have e : pe1 x q = ⟨q.st, 80, 5000, x.f1, off x.f1 q.u, off x.f1 q.v, off x.f0 (1 + q.got), x.w1, x.w0, x.d1, x.d0.take q.got⟩ := by unfold pe1; rw [if_neg (by omega)]
    rw [if_pos h, e]
    simp only
    rw [if_pos (by omega)]
    unfold pe1
    simp [h]
  · have e : ¬ (pe1 x q).st = 4 := by
      unfold pe1
      split
      · exact (by decide : ¬ (1 : Int) = 4)
      · show ¬ (q.st : Int) = 4
        omega
    rw [if_neg h, if_neg e]
theorem done0 {x : Cc} (hx : x.ok) {p q : Sd} (h : Inv x.cf p q) : doneC (pe0 x p) = decide (p.st = 4 ∧ p.u = x.cf.L0 + 1) := by
  have hL0 : x.cf.L0 = x.d0.length := rfl
  have hd := hx.d0
  have hv : p.u ≤ x.d0.length + 1 := by rcases h.a with a | a <;> omega
  have e1 : Seq.dist (pe0 x p).fi (pe0 x p).un = (p.u : Int) := dist_first hx.f0a hx.f0b p.u (by omega)
  have e3 : (pe0 x p).st = (p.st : Int) := rfl
  have e4 : (pe0 x p).d = x.d0 := rfl
  unfold doneC
  rw [e1, e3, e4, ← Bool.decide_and]
  congr 1
  apply propext
  omega
theorem done1 {x : Cc} (hx : x.ok) {p q : Sd} (h : Inv x.cf p q) : doneC (pe1 x q) = decide (q.st = 4 ∧ q.u = x.cf.L1 + 1) := by
  have hL1 : x.cf.L1 = x.d1.length := rfl
  have hd := hx.d1
  have hv : q.u ≤ x.d1.length + 1 := by rcases h.b with a | a | a <;> omega
  by_cases hq : q.st = 1
  · have e : (pe1 x q).st = 1 := by unfold pe1; rw [if_pos hq]
    unfold doneC
    rw [e, decide_eq_false (show ¬ (1 : Int) = 4 by decide), Bool.false_and, decide_eq_false (by omega)]
  · have e : pe1 x q = ⟨q.st, 80, 5000, x.f1, off x.f1 q.u, off x.f1 q.v, off x.f0 (1 + q.got), x.w1, x.w0, x.d1, x.d0.take q.got⟩ := by unfold pe1; rw [if_neg hq]
    unfold doneC
    rw [e]
    simp only
    rw [dist_first hx.f1a hx.f1b q.u (by omega), ← Bool.decide_and]
    congr 1
    apply propext
    omega
end Pb
end Go.Proofs.Ytihhcalgjkkalaa
