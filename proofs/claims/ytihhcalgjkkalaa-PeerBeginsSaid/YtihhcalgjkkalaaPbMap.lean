/- What the two sides and their segments hold, number by number; what peer's functions compute on it. No program in sight. -/
import Derived.Test.YtihhcalgjkkalaaPbDone
import Derived.Test.YtihhcalgjkkalaaPbSeq
namespace Go.Proofs.Ytihhcalgjkkalaa
open Go.RowKit
set_option linter.unusedVariables false
namespace Pb
/-- what a peer holds -/
structure Pc where
  st : Int
  port : Int
  to_ : Int
  fi : Int
  un : Int
  ne : Int
  wa : Int
  wi : Int
  ot : Int
  d : List Int
  g : List Int
/-- what a segment holds (no options) -/
structure Tc where
  sp : Int
  dp : Int
  sq : Int
  ak : Int
  fl : Int
  wi : Int
  body : List Int
/-- the bytes that may be said next -/
def nextC (p : Pc) (mss : Int) : List Int :=
  if Seq.dist p.fi p.ne - 1 < 0 ∨ min (min ((p.d.length : Int) - (Seq.dist p.fi p.ne - 1)) mss) (Seq.dist p.ne (Seq.step p.un p.ot)) ≤ 0 then []
  else (p.d.drop (Seq.dist p.fi p.ne - 1).toNat).take (min (min ((p.d.length : Int) - (Seq.dist p.fi p.ne - 1)) mss) (Seq.dist p.ne (Seq.step p.un p.ot))).toNat
def segC (p : Pc) (fl num ack : Int) (b : List Int) : Tc := ⟨p.port, p.to_, num, ack, fl, p.wi, b⟩
def nodC (p : Pc) : Tc := segC p 16 p.ne p.wa []
def sayC (p : Pc) (mss : Int) : Pc × Option Tc :=
  if p.st = 2 then (p, some (segC p 2 p.fi 0 []))
  else if p.st = 3 then (p, some (segC p 18 p.fi p.wa []))
  else if p.st = 4 then (if nextC p mss = [] then (p, none) else ({ p with ne := Seq.step p.ne (nextC p mss).length }, some (segC p 24 p.ne p.wa (nextC p mss))))
  else (p, none)
def getC (p : Pc) (t : Tc) : Pc :=
  if Seq.dist t.sq p.wa < 0 ∨ (t.body.length : Int) ≤ Seq.dist t.sq p.wa then p
  else { p with g := p.g ++ (t.body.drop (Seq.dist t.sq p.wa).toNat).take (65536 - p.g.length), wa := Seq.step p.wa ((t.body.drop (Seq.dist t.sq p.wa).toNat).take (65536 - p.g.length)).length }
def ackC (p : Pc) (t : Tc) : Pc :=
  if Seq.ahead t.ak p.un && !Seq.ahead t.ak (Seq.step p.fi ((p.d.length : Int) + 1)) then { p with un := t.ak, ne := Seq.later p.ne t.ak } else p
def letC (p : Pc) (t : Tc) : Pc := if t.ak = p.un then { p with ot := t.wi } else p
def spokeC (p : Pc) (t : Tc) : Pc := getC (letC (ackC p t) t) t
/-- the two sides; what they say -/
structure Cc where
  f0 : Int
  f1 : Int
  w0 : Nat
  w1 : Nat
  m : Nat
  d0 : List Int
  d1 : List Int
def Cc.cf (x : Cc) : Cf := ⟨x.d0.length, x.d1.length, x.w0, x.w1, x.m⟩
def pe0 (x : Cc) (p : Sd) : Pc := ⟨p.st, 5000, 80, x.f0, off x.f0 p.u, off x.f0 p.v, if p.st = 2 then 0 else off x.f1 (1 + p.got), x.w0, if p.st = 2 then 0 else x.w1, x.d0, x.d1.take p.got⟩
def pe1 (x : Cc) (q : Sd) : Pc := if q.st = 1 then ⟨1, 80, 0, x.f1, 0, 0, 0, x.w1, 0, x.d1, []⟩ else ⟨q.st, 80, 5000, x.f1, off x.f1 q.u, off x.f1 q.v, off x.f0 (1 + q.got), x.w1, x.w0, x.d1, x.d0.take q.got⟩
def sg0 (x : Cc) (t : Sg) : Tc := if t.kd = 0 then ⟨5000, 80, x.f0, 0, 2, x.w0, []⟩ else ⟨5000, 80, off x.f0 t.s, off x.f1 (1 + t.g), if t.n = 0 then 16 else 24, x.w0, (x.d0.drop (t.s - 1)).take t.n⟩
def sg1 (x : Cc) (t : Sg) : Tc := if t.kd = 1 then ⟨80, 5000, x.f1, off x.f0 1, 18, x.w1, []⟩ else ⟨80, 5000, off x.f1 t.s, off x.f0 (1 + t.g), if t.n = 0 then 16 else 24, x.w1, (x.d1.drop (t.s - 1)).take t.n⟩
structure Cc.ok (x : Cc) : Prop where
  f0a : 0 ≤ x.f0
  f0b : x.f0 ≤ 4294967295
  f1a : 0 ≤ x.f1
  f1b : x.f1 ≤ 4294967295
  w0a : 1 ≤ x.w0
  w0b : x.w0 ≤ 256
  w1a : 1 ≤ x.w1
  w1b : x.w1 ≤ 256
  ma : 1 ≤ x.m
  mb : x.m ≤ 256
  d0 : x.d0.length ≤ 300
  d1 : x.d1.length ≤ 300
/-! ### say -/
theorem next_off (f : Int) (hf0 : 0 ≤ f) (hf1 : f ≤ 4294967295) (d g : List Int) (st port to_ wa wi : Int) (u v ot m : Nat) (hu : u ≤ v) (hv1 : 1 ≤ v) (hv : v ≤ d.length + 1) (hd : d.length ≤ 300) (hot : ot ≤ 256) :
    nextC ⟨st, port, to_, f, off f u, off f v, wa, wi, ot, d, g⟩ m = (d.drop (v - 1)).take (min (min (d.length + 1 - v) m) (u + ot - v)) := by
  have e1 : Seq.dist f (off f v) = (v : Int) := dist_first hf0 hf1 v (by omega)
  have e2 : Seq.dist (off f v) (Seq.step (off f u) (ot : Int)) = ((u + ot : Nat) : Int) - (v : Int) := by
    rw [step_off]
    exact dist_off f v (u + ot) (by omega) (by omega)
  unfold nextC
  simp only [e1, e2]
  by_cases h : ((v : Int) - 1 < 0 ∨ min (min ((d.length : Int) - ((v : Int) - 1)) (m : Int)) (((u + ot : Nat) : Int) - (v : Int)) ≤ 0)
  · rw [if_pos h]
    have hz : min (min (d.length + 1 - v) m) (u + ot - v) = 0 := by omega
    rw [hz, List.take_zero]
  · rw [if_neg h]
    have h1 : ((v : Int) - 1).toNat = v - 1 := by omega
    have h2 : (min (min ((d.length : Int) - ((v : Int) - 1)) (m : Int)) (((u + ot : Nat) : Int) - (v : Int))).toNat = min (min (d.length + 1 - v) m) (u + ot - v) := by omega
    rw [h1, h2]
theorem sayC0 {x : Cc} (hx : x.ok) {p q : Sd} (h : Inv x.cf p q) : sayC (pe0 x p) x.m = (pe0 x (say x.cf false p).1, (say x.cf false p).2.map (sg0 x)) := by
  have hL : x.cf.L0 = x.d0.length := rfl
  rcases h.a with ⟨a1, a2, a3, a4⟩ | ⟨a1, a2, a3, a4, a5⟩
  · unfold say sayC
    rw [if_pos a1, if_pos (show (pe0 x p).st = 2 by simp [pe0, a1])]
    simp [sg0, segC, pe0]
  · have hn := next_off x.f0 hx.f0a hx.f0b x.d0 (x.d1.take p.got) p.st 5000 80 (off x.f1 (1 + p.got)) x.w0 p.u p.v x.w1 x.m a3 (by omega) (by omega) hx.d0 hx.w1b
    have e : pe0 x p = ⟨p.st, 5000, 80, x.f0, off x.f0 p.u, off x.f0 p.v, off x.f1 (1 + p.got), x.w0, x.w1, x.d0, x.d1.take p.got⟩ := by
      unfold pe0
      rw [if_neg (by omega), if_neg (by omega)]
    have hm : more x.cf false p = min (min (x.d0.length + 1 - p.v) x.m) (p.u + x.w1 - p.v) := rfl
    have s1 : say x.cf false p = if more x.cf false p = 0 then (p, none) else (⟨4, p.u, p.v + more x.cf false p, p.got⟩, some ⟨2, p.v, more x.cf false p, p.got⟩) := by
      unfold say
      rw [if_neg (show ¬ p.st = 2 by omega), if_neg (show ¬ p.st = 3 by omega), if_pos a1]
    rw [s1, e]
    unfold sayC
    dsimp only
    rw [if_neg (show ¬ (p.st : Int) = 2 by omega), if_neg (show ¬ (p.st : Int) = 3 by omega), if_pos (show (p.st : Int) = 4 by omega), hn, ← hm]
    by_cases hz : more x.cf false p = 0
    · rw [if_pos hz, hz, List.take_zero, if_pos rfl]
      simp only [Option.map_none]
      rw [← e]
    · have hl : ((x.d0.drop (p.v - 1)).take (more x.cf false p)).length = more x.cf false p := by
        rw [List.length_take, List.length_drop]
        omega
      have hne : ¬ (x.d0.drop (p.v - 1)).take (more x.cf false p) = [] := fun he => hz (by rw [← hl, he]; rfl)
      rw [if_neg hz, if_neg hne, hl, step_off]
      simp only [Option.map_some, sg0, segC, pe0]
      rw [if_neg (by omega), if_neg (by omega), if_neg hz, a1]
      simp
theorem sayC1 {x : Cc} (hx : x.ok) {p q : Sd} (h : Inv x.cf p q) : sayC (pe1 x q) x.m = (pe1 x (say x.cf true q).1, (say x.cf true q).2.map (sg1 x)) := by
  have hL : x.cf.L1 = x.d1.length := rfl
  rcases h.b with ⟨a1, a2, a3, a4⟩ | ⟨a1, a2, a3, a4⟩ | ⟨a1, a2, a3, a4, a5⟩
  · have s1 : say x.cf true q = (q, none) := by
      unfold say
      rw [if_neg (by omega), if_neg (by omega), if_neg (by omega)]
    have e : pe1 x q = ⟨1, 80, 0, x.f1, 0, 0, 0, x.w1, 0, x.d1, []⟩ := by
      unfold pe1
      rw [if_pos a1]
    rw [s1, e]
    unfold sayC
    dsimp only
    rw [if_neg (by decide), if_neg (by decide), if_neg (by decide), Option.map_none]
  · have s1 : say x.cf true q = (q, some ⟨1, 0, 0, 0⟩) := by
      unfold say
      rw [if_neg (by omega), if_pos a1]
    have e : pe1 x q = ⟨3, 80, 5000, x.f1, off x.f1 q.u, off x.f1 q.v, off x.f0 (1 + q.got), x.w1, x.w0, x.d1, x.d0.take q.got⟩ := by
      unfold pe1
      rw [if_neg (by omega), a1]
      rfl
    rw [s1, e]
    unfold sayC
    dsimp only
    rw [if_neg (by decide), if_pos rfl, a4]
    simp [sg1, segC]
  · have hn := next_off x.f1 hx.f1a hx.f1b x.d1 (x.d0.take q.got) q.st 80 5000 (off x.f0 (1 + q.got)) x.w1 q.u q.v x.w0 x.m a3 (by omega) (by omega) hx.d1 hx.w0b
    have e : pe1 x q = ⟨q.st, 80, 5000, x.f1, off x.f1 q.u, off x.f1 q.v, off x.f0 (1 + q.got), x.w1, x.w0, x.d1, x.d0.take q.got⟩ := by
      unfold pe1
      rw [if_neg (by omega)]
    have hm : more x.cf true q = min (min (x.d1.length + 1 - q.v) x.m) (q.u + x.w0 - q.v) := rfl
    have s1 : say x.cf true q = if more x.cf true q = 0 then (q, none) else (⟨4, q.u, q.v + more x.cf true q, q.got⟩, some ⟨2, q.v, more x.cf true q, q.got⟩) := by
      unfold say
      rw [if_neg (show ¬ q.st = 2 by omega), if_neg (show ¬ q.st = 3 by omega), if_pos a1]
    rw [s1, e]
    unfold sayC
    dsimp only
    rw [if_neg (show ¬ (q.st : Int) = 2 by omega), if_neg (show ¬ (q.st : Int) = 3 by omega), if_pos (show (q.st : Int) = 4 by omega), hn, ← hm]
    by_cases hz : more x.cf true q = 0
    · rw [if_pos hz, hz, List.take_zero, if_pos rfl]
      simp only [Option.map_none]
      rw [← e]
    · have hl : ((x.d1.drop (q.v - 1)).take (more x.cf true q)).length = more x.cf true q := by
        rw [List.length_take, List.length_drop]
        omega
      have hne : ¬ (x.d1.drop (q.v - 1)).take (more x.cf true q) = [] := fun he => hz (by rw [← hl, he]; rfl)
      rw [if_neg hz, if_neg hne, hl, step_off]
      simp only [Option.map_some, sg1, segC, pe1]
      rw [if_neg (by omega), if_neg (by omega), if_neg hz, a1]
/-! ### hear -/
theorem get_off (p : Pc) (t : Tc) (f : Int) (d : List Int) (g s n : Nat) (hg : g ≤ d.length) (hd : d.length ≤ 300) (hs : 1 ≤ s) (hsn : s + n ≤ d.length + 1) (hpg : p.g = d.take g) (hwa : p.wa = off f (1 + g)) (hsq : t.sq = off f s) (hb : t.body = (d.drop (s - 1)).take n) :
    getC p t = { p with g := d.take (if s ≤ g + 1 ∧ g + 1 < s + n then s + n - 1 else g), wa := off f (1 + (if s ≤ g + 1 ∧ g + 1 < s + n then s + n - 1 else g)) } := by
  have e1 : Seq.dist t.sq p.wa = ((1 + g : Nat) : Int) - (s : Int) := by rw [hsq, hwa]; exact dist_off f s (1 + g) (by omega) (by omega)
  have e2 : t.body.length = n := by rw [hb, List.length_take, List.length_drop]; omega
  have e3 : p.g.length = g := by rw [hpg, List.length_take]; omega
  unfold getC
  rw [e1, e2]
  by_cases h : s ≤ g + 1 ∧ g + 1 < s + n
  · rw [if_neg (by omega), if_pos h]
    have e4 : (((1 + g : Nat) : Int) - (s : Int)).toNat = g + 1 - s := by omega
    have e5 : (t.body.drop (g + 1 - s)).take (65536 - p.g.length) = (d.drop g).take (s + n - 1 - g) := by
      rw [hb, List.drop_take, List.drop_drop, show s - 1 + (g + 1 - s) = g by omega, show n - (g + 1 - s) = s + n - 1 - g by omega]
      exact List.take_of_length_le (by rw [List.length_take, e3]; omega)
    have e6 : ((d.drop g).take (s + n - 1 - g)).length = s + n - 1 - g := by rw [List.length_take, List.length_drop]; omega
    rw [e4, e5, e6, hwa, step_off, hpg, ← List.take_add, show g + (s + n - 1 - g) = s + n - 1 by omega, show 1 + g + (s + n - 1 - g) = 1 + (s + n - 1) by omega]
  · rw [if_pos (by omega), if_neg h, ← hpg, ← hwa]
theorem ack_off (p : Pc) (t : Tc) (f : Int) (h0 : 0 ≤ f) (h1 : f ≤ 4294967295) (sd : Sd) (sg : Sg) (hu : sd.u ≤ 302) (hv : sd.v ≤ 302) (hd : p.d.length ≤ 300) (hg : sg.g ≤ p.d.length) (hfi : p.fi = f) (hun : p.un = off f sd.u) (hne : p.ne = off f sd.v) (hak : t.ak = off f (1 + sg.g)) :
    ackC p t = { p with un := off f (upU sd sg), ne := off f (upV sd sg) } := by
  have e1 : Seq.ahead t.ak p.un = decide (sd.u < 1 + sg.g) := by rw [hak, hun]; exact ahead_off f _ _ (by omega) (by omega)
  have e2 : Seq.step p.fi ((p.d.length : Int) + 1) = off f (p.d.length + 1) := by
    rw [hfi]
    have := step_first h0 h1 (p.d.length + 1)
    rw [← this]
    rfl
  have e3 : Seq.ahead t.ak (off f (p.d.length + 1)) = false := by
    rw [hak, ahead_off f _ _ (by omega) (by omega)]
    exact decide_eq_false (by omega)
  unfold ackC upU upV
  rw [e2, e3, e1]
  by_cases h : sd.u < sg.g + 1
  · rw [if_pos h, if_pos h, decide_eq_true (show sd.u < 1 + sg.g by omega), if_pos (show (true && !false) = true from rfl), hak, hne, later_off f _ _ (by omega) (by omega), show 1 + sg.g = sg.g + 1 by omega]
  · rw [if_neg h, if_neg h, decide_eq_false (show ¬ sd.u < 1 + sg.g by omega), if_neg (by simp), ← hun, ← hne]
theorem let_same {p : Pc} {t : Tc} (h : p.ot = t.wi) : letC p t = p := by
  unfold letC
  split
  · rw [← h]
  · rfl
theorem spokeC0 {x : Cc} (hx : x.ok) {p q : Sd} {t : Sg} (h : Inv x.cf p q) (h4 : p.st = 4) (ht : Ok1 x.cf q t) (hk : t.kd = 2) : spokeC (pe0 x p) (sg1 x t) = pe0 x (spoke p t) := by
  have hL0 : x.cf.L0 = x.d0.length := rfl
  have hL1 : x.cf.L1 = x.d1.length := rfl
  have hd0 := hx.d0
  have hd1 := hx.d1
  have ha : 1 ≤ p.u ∧ p.u ≤ p.v ∧ p.v ≤ x.cf.L0 + 1 ∧ p.got ≤ x.cf.L1 := by rcases h.a with a | a <;> omega
  have hq : q.got ≤ x.cf.L0 := by rcases h.b with b | b | b <;> omega
  have hb : 1 ≤ t.s ∧ t.s + t.n ≤ x.cf.L1 + 1 ∧ t.g ≤ q.got := by rcases ht with b | b <;> omega
  have e : pe0 x p = ⟨p.st, 5000, 80, x.f0, off x.f0 p.u, off x.f0 p.v, off x.f1 (1 + p.got), x.w0, x.w1, x.d0, x.d1.take p.got⟩ := by
    unfold pe0
    rw [if_neg (by omega), if_neg (by omega)]
  have e' : sg1 x t = ⟨80, 5000, off x.f1 t.s, off x.f0 (1 + t.g), if t.n = 0 then 16 else 24, x.w1, (x.d1.drop (t.s - 1)).take t.n⟩ := by
    unfold sg1
    rw [if_neg (by omega)]
  have e'' : pe0 x (spoke p t) = ⟨4, 5000, 80, x.f0, off x.f0 (upU p t), off x.f0 (upV p t), off x.f1 (1 + upG p t), x.w0, x.w1, x.d0, x.d1.take (upG p t)⟩ := by
    unfold pe0
    rw [if_neg (show ¬ (spoke p t).st = 2 by simp [spoke]), if_neg (show ¬ (spoke p t).st = 2 by simp [spoke])]
    rfl
  unfold spokeC
  rw [ack_off (pe0 x p) (sg1 x t) x.f0 hx.f0a hx.f0b p t (by omega) (by omega) (by rw [e]; exact hd0) (by rw [e]; show t.g ≤ x.d0.length; omega) (by rw [e]) (by rw [e]) (by rw [e]) (by rw [e'])]
  rw [let_same (by rw [e, e'])]
  rw [get_off _ (sg1 x t) x.f1 x.d1 p.got t.s t.n (by omega) hd1 hb.1 (by omega) (by rw [e]) (by rw [e]) (by rw [e']) (by rw [e'])]
  rw [e'', e, h4]
  rfl
theorem spokeC1 {x : Cc} (hx : x.ok) {q : Sd} {t : Sg} (h4 : q.st = 4) (hk : t.kd = 2) (h1 : q.u ≤ x.d1.length + 1) (h2 : q.v ≤ x.d1.length + 1) (h3 : q.got ≤ x.d0.length) (h5 : 1 ≤ t.s) (h6 : t.s + t.n ≤ x.d0.length + 1) (h7 : t.g ≤ x.d1.length) : spokeC (pe1 x q) (sg0 x t) = pe1 x (spoke q t) := by
  have hd0 := hx.d0
  have hd1 := hx.d1
  have e : pe1 x q = ⟨q.st, 80, 5000, x.f1, off x.f1 q.u, off x.f1 q.v, off x.f0 (1 + q.got), x.w1, x.w0, x.d1, x.d0.take q.got⟩ := by
    unfold pe1
    rw [if_neg (by omega)]
  have e' : sg0 x t = ⟨5000, 80, off x.f0 t.s, off x.f1 (1 + t.g), if t.n = 0 then 16 else 24, x.w0, (x.d0.drop (t.s - 1)).take t.n⟩ := by
    unfold sg0
    rw [if_neg (by omega)]
  have e'' : pe1 x (spoke q t) = ⟨4, 80, 5000, x.f1, off x.f1 (upU q t), off x.f1 (upV q t), off x.f0 (1 + upG q t), x.w1, x.w0, x.d1, x.d0.take (upG q t)⟩ := by
    unfold pe1
    rw [if_neg (show ¬ (spoke q t).st = 1 by simp [spoke])]
    rfl
  unfold spokeC
  rw [ack_off (pe1 x q) (sg0 x t) x.f1 hx.f1a hx.f1b q t (by omega) (by omega) (by rw [e]; exact hd1) (by rw [e]; exact h7) (by rw [e]) (by rw [e]) (by rw [e]) (by rw [e'])]
  rw [let_same (by rw [e, e'])]
  rw [get_off _ (sg0 x t) x.f0 x.d0 q.got t.s t.n (by omega) hd0 h5 (by omega) (by rw [e]) (by rw [e]) (by rw [e']) (by rw [e'])]
  rw [e'', e, h4]
  rfl
end Pb
end Go.Proofs.Ytihhcalgjkkalaa
