/- Datagrams: what package udp computes, over lists of numbers. No program in sight. -/
import Derived.Test.YtodcbejdlnikgaaCsumPlain2
namespace Go.Proofs.Ytodcbejdlnikgaa
open Go.RowKit
set_option linter.unusedVariables false
namespace Csum
def pseudo (a b p q : Int) : Int := fold (a / 65536 + a % 65536 + b / 65536 + b % 65536 + p % 65536 + q % 65536)
end Csum
namespace Udp
def sum (s d : Int) (l : List Int) : Int := Csum.fold (Csum.pseudo s d 17 l.length + Csum.sum l)
def laid (sp dp ck : Int) (body : List Int) : List Int :=
  sp / 256 :: sp % 256 :: dp / 256 :: dp % 256 :: (8 + (body.length : Int)) / 256 :: (8 + (body.length : Int)) % 256 :: ck / 256 :: ck % 256 :: body
def check (s d sp dp : Int) (ns : Bool) (body : List Int) : Int :=
  if ns then 0 else if 65535 - sum s d (laid sp dp 0 body) = 0 then 65535 else 65535 - sum s d (laid sp dp 0 body)
def fine (sp dp : Int) (body : List Int) : Prop := 0 ≤ sp ∧ sp ≤ 65535 ∧ 0 ≤ dp ∧ dp ≤ 65535 ∧ body.length ≤ 65527
structure Got where
  err : Int
  sp : Int
  dp : Int
  ns : Bool
  body : List Int
def size (l : List Int) : Int := l.getD 4 0 * 256 + l.getD 5 0
def ck (l : List Int) : Int := l.getD 6 0 * 256 + l.getD 7 0
def parse (s d : Int) (l : List Int) : Got :=
  if l.length < 8 then ⟨2, 0, 0, false, []⟩
  else if size l < 8 ∨ (l.length : Int) < size l then ⟨4, 0, 0, false, []⟩
  else if ck l ≠ 0 ∧ sum s d (l.take (size l).toNat) ≠ 65535 then ⟨5, 0, 0, false, []⟩
  else ⟨0, l.getD 0 0 * 256 + l.getD 1 0, l.getD 2 0 * 256 + l.getD 3 0, ck l == 0, (l.take (size l).toNat).drop 8⟩

def isB (l : List Int) : Prop := ∀ x ∈ l, 0 ≤ x ∧ x ≤ 255
theorem laid_len (sp dp ck : Int) (body : List Int) : (laid sp dp ck body).length = 8 + body.length := by simp [laid]; omega
theorem laid_isB {sp dp ck : Int} {body : List Int} (hf : fine sp dp body) (hc0 : 0 ≤ ck) (hc1 : ck ≤ 65535) (hb : isB body) : isB (laid sp dp ck body) := by
  obtain ⟨h1, h2, h3, h4, h5⟩ := hf
  intro x hx
  simp only [laid, List.mem_cons] at hx
  rcases hx with rfl | rfl | rfl | rfl | rfl | rfl | rfl | rfl | hx
  all_goals first | omega | exact hb x hx
theorem laid_tot (sp dp ck : Int) (body : List Int) : Csum.tot true (laid sp dp ck body) = Csum.tot true (laid sp dp 0 body) + ck := by
  simp only [laid, Csum.tot]; simp; omega
theorem sum_eq {s d : Int} {l : List Int} (hs0 : 0 ≤ s) (hd0 : 0 ≤ d) (hb : isB l) :
    sum s d l = Csum.fold (s / 65536 + s % 65536 + d / 65536 + d % 65536 + 17 + (l.length : Int) % 65536 + Csum.tot true l) := by
  have hn := (Csum.tot_nonneg true l hb).1
  unfold sum Csum.pseudo Csum.sum
  rw [Csum.fold_fold (by omega) (Csum.fold_bd hn).1, Int.add_comm, Csum.fold_fold hn (by omega)]
  congr 1; omega
theorem sum_bd {s d : Int} {l : List Int} (hs0 : 0 ≤ s) (hd0 : 0 ≤ d) (hb : isB l) : 0 ≤ sum s d l ∧ sum s d l ≤ 65535 := by
  have hn := (Csum.tot_nonneg true l hb).1
  rw [sum_eq hs0 hd0 hb]; exact Csum.fold_bd (by omega)
/-- the whole's total but for the check sum -/
def X (s d sp dp : Int) (body : List Int) : Int := s / 65536 + s % 65536 + d / 65536 + d % 65536 + 17 + ((8 + body.length : Nat) : Int) % 65536 + Csum.tot true (laid sp dp 0 body)
theorem X_pos {s d sp dp : Int} {body : List Int} (hs0 : 0 ≤ s) (hd0 : 0 ≤ d) (hf : fine sp dp body) (hb : isB body) : 17 ≤ X s d sp dp body := by
  have hn := (Csum.tot_nonneg true _ (laid_isB hf (by omega : (0 : Int) ≤ 0) (by omega) hb)).1
  unfold X; omega
theorem sum_laid {s d sp dp ck : Int} {body : List Int} (hs0 : 0 ≤ s) (hd0 : 0 ≤ d) (hf : fine sp dp body) (hb : isB body) (hc0 : 0 ≤ ck) (hc1 : ck ≤ 65535) :
    sum s d (laid sp dp ck body) = Csum.fold (X s d sp dp body + ck) := by
  rw [sum_eq hs0 hd0 (laid_isB hf hc0 hc1 hb), laid_tot, laid_len]
  congr 1; unfold X; omega
theorem check_bd {s d sp dp : Int} {ns : Bool} {body : List Int} (hs0 : 0 ≤ s) (hd0 : 0 ≤ d) (hf : fine sp dp body) (hb : isB body) :
    0 ≤ check s d sp dp ns body ∧ check s d sp dp ns body ≤ 65535 ∧ (ns = false → 1 ≤ check s d sp dp ns body) := by
  have h := sum_bd (s := s) (d := d) hs0 hd0 (laid_isB hf (by omega : (0 : Int) ≤ 0) (by omega) hb)
  unfold check
  cases ns
  · simp only [Bool.false_eq_true, if_false]; split <;> omega
  · simp
theorem check_fits {s d sp dp : Int} {body : List Int} (hs0 : 0 ≤ s) (hd0 : 0 ≤ d) (hf : fine sp dp body) (hb : isB body) :
    sum s d (laid sp dp (check s d sp dp false body) body) = 65535 := by
  have hx := X_pos hs0 hd0 hf hb
  obtain ⟨c0, c1, _⟩ := check_bd (ns := false) hs0 hd0 hf hb
  rw [sum_laid hs0 hd0 hf hb c0 c1]
  unfold check
  rw [sum_laid hs0 hd0 hf hb (by omega) (by omega)]
  simp only [Bool.false_eq_true, if_false, Int.add_zero]
  unfold Csum.fold
  rw [if_neg (by omega : ¬ X s d sp dp body = 0)]
  split <;> split <;> omega
theorem check_only {s d sp dp ck : Int} {body : List Int} (hs0 : 0 ≤ s) (hd0 : 0 ≤ d) (hf : fine sp dp body) (hb : isB body) (hc0 : 1 ≤ ck) (hc1 : ck ≤ 65535)
    (h : sum s d (laid sp dp ck body) = 65535) : check s d sp dp false body = ck := by
  have hx := X_pos hs0 hd0 hf hb
  rw [sum_laid hs0 hd0 hf hb (by omega) hc1] at h
  unfold check
  rw [sum_laid hs0 hd0 hf hb (by omega) (by omega)]
  simp only [Bool.false_eq_true, if_false, Int.add_zero]
  unfold Csum.fold at h ⊢
  rw [if_neg (by omega)] at h
  rw [if_neg (by omega : ¬ X s d sp dp body = 0)]
  split <;> omega
theorem size_laid (sp dp ck : Int) (body rest : List Int) (hf : body.length ≤ 65527) : size (laid sp dp ck body ++ rest) = 8 + body.length := by
  simp only [size, laid, List.cons_append]; simp; omega
theorem ck_laid (sp dp c : Int) (body rest : List Int) : ck (laid sp dp c body ++ rest) = c := by
  simp only [ck, laid, List.cons_append]; simp; omega
theorem take_laid (sp dp c : Int) (body rest : List Int) : (laid sp dp c body ++ rest).take (8 + body.length) = laid sp dp c body := by
  rw [List.take_append_of_le_length (by rw [laid_len]; exact Nat.le_refl _), List.take_of_length_le (by rw [laid_len]; exact Nat.le_refl _)]
/-- what is put is parsed as it was -/
theorem parse_laid {s d sp dp : Int} {ns : Bool} {body rest : List Int} (hs0 : 0 ≤ s) (hd0 : 0 ≤ d) (hf : fine sp dp body) (hb : isB body) :
    parse s d (laid sp dp (check s d sp dp ns body) body ++ rest) = ⟨0, sp, dp, ns, body⟩ := by
  obtain ⟨c0, c1, c2⟩ := check_bd (ns := ns) hs0 hd0 hf hb
  have hf' := hf
  obtain ⟨h1, h2, h3, h4, h5⟩ := hf
  unfold parse
  rw [size_laid _ _ _ _ _ h5, ck_laid]
  have hl : (laid sp dp (check s d sp dp ns body) body ++ rest).length = 8 + body.length + rest.length := by rw [List.length_append, laid_len]
  rw [hl, if_neg (by omega), if_neg (by omega)]
  have ht : (8 + (body.length : Int)).toNat = 8 + body.length := by omega
  rw [ht, take_laid]
  cases ns
  · rw [if_neg (by rintro ⟨_, h⟩; exact h (check_fits hs0 hd0 hf' hb))]
    have hz : (check s d sp dp false body == 0) = false := by rw [beq_eq_false_iff_ne]; have := c2 rfl; omega
    rw [hz]
    simp only [laid, List.cons_append]
    simp; omega
  · have hz : check s d sp dp true body = 0 := rfl
    rw [hz, if_neg (by simp)]
    simp only [laid, List.cons_append]
    simp; omega
/-- what is parsed is put as it was -/
theorem laid_parse {s d : Int} {l : List Int} (hs0 : 0 ≤ s) (hd0 : 0 ≤ d) (hb : isB l) (h : (parse s d l).err = 0) :
    let g := parse s d l
    fine g.sp g.dp g.body ∧ isB g.body ∧ 8 + g.body.length ≤ l.length ∧ laid g.sp g.dp (check s d g.sp g.dp g.ns g.body) g.body = l.take (8 + g.body.length) := by
  intro g
  have hg : g = parse s d l := rfl
  have hb' : isB l := hb
  clear_value g
  unfold parse at hg
  by_cases h1 : l.length < 8
  · rw [if_pos h1] at hg; unfold parse at h; rw [if_pos h1] at h; simp at h
  · rw [if_neg h1] at hg
    unfold parse at h
    rw [if_neg h1] at h
    by_cases h2 : size l < 8 ∨ (l.length : Int) < size l
    · rw [if_pos h2] at h; simp at h
    · rw [if_neg h2] at hg h
      by_cases h3 : ck l ≠ 0 ∧ sum s d (l.take (size l).toNat) ≠ 65535
      · rw [if_pos h3] at h; simp at h
      · rw [if_neg h3] at hg
        clear h
        rcases l with _ | ⟨b0, _ | ⟨b1, _ | ⟨b2, _ | ⟨b3, _ | ⟨b4, _ | ⟨b5, _ | ⟨b6, _ | ⟨b7, r⟩⟩⟩⟩⟩⟩⟩⟩
        any_goals (exfalso; simp at h1; done)
        have q0 := hb b0 (by simp)
        have q1 := hb b1 (by simp)
        have q2 := hb b2 (by simp)
        have q3 := hb b3 (by simp)
        have q4 := hb b4 (by simp)
        have q5 := hb b5 (by simp)
        have q6 := hb b6 (by simp)
        have q7 := hb b7 (by simp)
        have es : size (b0 :: b1 :: b2 :: b3 :: b4 :: b5 :: b6 :: b7 :: r) = b4 * 256 + b5 := rfl
        have ec : ck (b0 :: b1 :: b2 :: b3 :: b4 :: b5 :: b6 :: b7 :: r) = b6 * 256 + b7 := rfl
        rw [es] at h2 h3 hg
        rw [ec] at h3 hg
        obtain ⟨n, hn⟩ : ∃ n : Nat, b4 * 256 + b5 = 8 + (n : Int) := ⟨(b4 * 256 + b5 - 8).toNat, by omega⟩
        have hl : (b0 :: b1 :: b2 :: b3 :: b4 :: b5 :: b6 :: b7 :: r).length = 8 + r.length := by simp; omega
        rw [hl] at h2
        have hnr : n ≤ r.length := by omega
        have ht : (b4 * 256 + b5).toNat = 8 + n := by omega
        rw [ht] at h3 hg
        have htk : (b0 :: b1 :: b2 :: b3 :: b4 :: b5 :: b6 :: b7 :: r).take (8 + n) = b0 :: b1 :: b2 :: b3 :: b4 :: b5 :: b6 :: b7 :: r.take n := by
          rw [show 8 + n = n + 8 by omega]; rfl
        rw [htk] at h3 hg
        have hg1 : g.sp = b0 * 256 + b1 := by rw [hg]; rfl
        have hg2 : g.dp = b2 * 256 + b3 := by rw [hg]; rfl
        have hg3 : g.ns = (b6 * 256 + b7 == 0) := by rw [hg]
        have hg4 : g.body = r.take n := by rw [hg]; rfl
        have hgl : g.body.length = n := by rw [hg4, List.length_take]; omega
        have hbb : isB g.body := by
          intro x hx; rw [hg4] at hx
          exact hb x (by have := List.mem_of_mem_take hx; simp [this])
        have hlaid : ∀ c, 0 ≤ c → c = b6 * 256 + b7 → laid g.sp g.dp c g.body = b0 :: b1 :: b2 :: b3 :: b4 :: b5 :: b6 :: b7 :: r.take n := by
          intro c hc0 hc
          unfold laid
          rw [hg1, hg2, hgl, hg4, ← hn, hc]
          rw [show (b0 * 256 + b1) / 256 = b0 by omega, show (b0 * 256 + b1) % 256 = b1 by omega, show (b2 * 256 + b3) / 256 = b2 by omega, show (b2 * 256 + b3) % 256 = b3 by omega,
            show (b4 * 256 + b5) / 256 = b4 by omega, show (b4 * 256 + b5) % 256 = b5 by omega, show (b6 * 256 + b7) / 256 = b6 by omega, show (b6 * 256 + b7) % 256 = b7 by omega]
        have hfine : fine g.sp g.dp g.body := by
          refine ⟨by omega, by omega, by omega, by omega, ?_⟩
          rw [hgl]; omega
        refine ⟨hfine, hbb, by rw [hgl, hl]; omega, ?_⟩
        rw [hgl, htk]
        by_cases hz : b6 * 256 + b7 = 0
        · rw [hg3, hz]
          exact hlaid _ (Int.le_refl 0) hz.symm
        · rw [hg3, show (b6 * 256 + b7 == 0) = false by rw [beq_eq_false_iff_ne]; exact hz]
          have hs : sum s d (b0 :: b1 :: b2 :: b3 :: b4 :: b5 :: b6 :: b7 :: r.take n) = 65535 := by
            by_cases hh : sum s d (b0 :: b1 :: b2 :: b3 :: b4 :: b5 :: b6 :: b7 :: r.take n) = 65535
            · exact hh
            · exact absurd ⟨hz, hh⟩ h3
          have := check_only (ck := b6 * 256 + b7) hs0 hd0 hfine hbb (by omega) (by omega) (by rw [hlaid _ (by omega) rfl]; exact hs)
          rw [this]
          exact hlaid _ (by omega) rfl
/-- a byte, but of the length, that is changed is seen, or the sum is gone -/
theorem spoilt {s d sp dp : Int} {body : List Int} (hs0 : 0 ≤ s) (hd0 : 0 ≤ d) (hf : fine sp dp body) (hb : isB body) (j : Nat) (v v' : Int) (h4 : j ≠ 4) (h5 : j ≠ 5)
    (hv : (laid sp dp (check s d sp dp false body) body)[j]? = some v) (hv0 : 0 ≤ v') (hv1 : v' ≤ 255) (hne : v' ≠ v) :
    ∀ l', l' = (laid sp dp (check s d sp dp false body) body).set j v' →
    (parse s d l').err ≠ 0 ∨ ((parse s d l').ns = true ∧ l'[6]? = some 0 ∧ l'[7]? = some 0) := by
  intro l' hl'
  obtain ⟨c0, c1, c2⟩ := check_bd (ns := false) hs0 hd0 hf hb
  have hfit := check_fits hs0 hd0 hf hb
  have hlB := laid_isB hf c0 c1 hb
  have hll := laid_len sp dp (check s d sp dp false body) body
  obtain ⟨h1, h2, h3, h4', h5'⟩ := hf
  generalize hL : laid sp dp (check s d sp dp false body) body = L at *
  have hlen' : l'.length = 8 + body.length := by rw [hl', List.length_set, hll]
  have hB' : isB l' := by rw [hl']; exact Csum.isB_set hlB j ⟨hv0, hv1⟩
  have hg4 : l'.getD 4 0 = L.getD 4 0 := by rw [hl', List.getD_eq_getElem?_getD, List.getD_eq_getElem?_getD, List.getElem?_set_ne h4]
  have hg5 : l'.getD 5 0 = L.getD 5 0 := by rw [hl', List.getD_eq_getElem?_getD, List.getD_eq_getElem?_getD, List.getElem?_set_ne h5]
  have hsz : size l' = 8 + body.length := by
    unfold size; rw [hg4, hg5, ← hL]
    have := size_laid sp dp (check s d sp dp false body) body [] h5'
    rw [List.append_nil] at this; exact this
  have bv := hlB v (List.mem_of_getElem? hv)
  unfold parse
  rw [hsz, if_neg (by omega), if_neg (by omega)]
  have ht : (8 + (body.length : Int)).toNat = 8 + body.length := by omega
  rw [ht, List.take_of_length_le (by omega)]
  have hsum : sum s d l' ≠ 65535 := by
    rw [sum_eq hs0 hd0 hB', hlen']
    rw [sum_eq hs0 hd0 hlB, hll] at hfit
    have hn := (Csum.tot_nonneg true L hlB).1
    have htot := Csum.tot_set L true j v v' hv
    rw [← hl'] at htot
    have hn' := (Csum.tot_nonneg true l' hB').1
    rw [htot] at hn' ⊢
    unfold Csum.fold at hfit ⊢
    rw [if_neg (by omega)] at hfit
    rw [if_neg (by split at hn' <;> omega)]
    split <;> omega
  by_cases hc : ck l' = 0
  · right
    rw [if_neg (by rintro ⟨h, _⟩; exact h hc)]
    refine ⟨by simp [hc], ?_⟩
    have e6 : l'[6]? = some (l'.getD 6 0) := by rw [List.getD_eq_getElem?_getD, List.getElem?_eq_getElem (by omega)]; rfl
    have e7 : l'[7]? = some (l'.getD 7 0) := by rw [List.getD_eq_getElem?_getD, List.getElem?_eq_getElem (by omega)]; rfl
    have b6 := hB' _ (List.mem_of_getElem? e6)
    have b7 := hB' _ (List.mem_of_getElem? e7)
    unfold ck at hc
    rw [e6, e7]
    exact ⟨by congr 1; omega, by congr 1; omega⟩
  · left
    rw [if_pos ⟨hc, hsum⟩]
    simp
def portB (n : Int) : Bool := decide (0 ≤ n ∧ n ≤ 65535)
def fineB (sp dp : Int) (body : List Int) : Bool := portB sp && portB dp && decide (body.length ≤ 65527)
theorem fine_of {sp dp : Int} {body : List Int} (h : fineB sp dp body = true) : fine sp dp body := by
  unfold fineB portB at h
  simp only [Bool.and_eq_true, decide_eq_true_eq] at h
  exact ⟨h.1.1.1, h.1.1.2, h.1.2.1, h.1.2.2, h.2⟩
theorem fineB_of {sp dp : Int} {body : List Int} (h : fine sp dp body) : fineB sp dp body = true := by
  obtain ⟨h1, h2, h3, h4, h5⟩ := h
  unfold fineB portB
  simp only [Bool.and_eq_true, decide_eq_true_eq]
  exact ⟨⟨⟨h1, h2⟩, h3, h4⟩, h5⟩
def putl (s d sp dp : Int) (ns : Bool) (body : List Int) : List Int := if fineB sp dp body then laid sp dp (check s d sp dp ns body) body else []
def pute (sp dp : Int) (body : List Int) : Int := if fineB sp dp body then 0 else 1
def sameB (sp dp : Int) (ns : Bool) (body : List Int) (sp' dp' : Int) (ns' : Bool) (body' : List Int) : Bool := sp == sp' && (dp == dp' && (ns == ns' && body == body'))
end Udp
end Go.Proofs.Ytodcbejdlnikgaa
