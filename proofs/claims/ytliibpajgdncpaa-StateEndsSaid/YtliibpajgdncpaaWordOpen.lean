/- casematelaw18.Word in a slice that came in. -/
import Derived.Test.YtliibpajgdncpaaTcpOpen
namespace Go.Proofs.Ytliibpajgdncpaa
open Go.ChangeShapes Go.WideShapes Go.ChangeAt Go.RowKit Go.Deep
set_option linter.unusedVariables false
structure Wd where
  side : Int
  t : Tcp.T
deriving Inhabited
def Wd.cells (x : Wd) : List Value := .int .i64 x.side :: x.t.cells
def Wd.ok (w : World) (x : Wd) : Prop := x.t.ok w ∧ -9223372036854775808 ≤ x.side ∧ x.side ≤ 9223372036854775807
/-- words in memory -/
def WordsRd (w : World) (A : Option Addr) (n : Nat) (l : List Wd) : Prop :=
  l.length = n ∧ (∀ x ∈ l, x.ok w) ∧ (∀ j, j < n → ∃ b off, A = some ⟨b, off, none⟩ ∧ b < w.heap.size ∧ ∀ (i : Nat) (u : Value), (Wd.cells l[j]!)[i]? = some u → w.cell? ⟨b, off + j * 10 + i, none⟩ = some u)
theorem WordsRd.below {w w' : World} {A : Option Addr} {n : Nat} {l : List Wd} (h : WordsRd w A n l) (hb : Below w.heap.size w w') : WordsRd w' A n l := by
  refine ⟨h.1, fun x hx => ⟨(h.2.1 x hx).1.below hb, (h.2.1 x hx).2⟩, fun j hj => ?_⟩
  obtain ⟨b, off, e, hl, hc⟩ := h.2.2 j hj
  exact ⟨b, off, e, Nat.lt_of_lt_of_le hl hb.size, fun i u hu => (hb.cell (p := ⟨b, off + j * 10 + i, none⟩) hl).trans (hc i u hu)⟩
/-- the k-th word: its cells, what it is -/
theorem WordsRd.ten {w : World} {A : Option Addr} {n : Nat} {l : List Wd} (h : WordsRd w A n l) {k : Nat} (hk : k < n) : ∃ (b off : Nat) (sd : Int) (t : Tcp.T), A = some ⟨b, off, none⟩ ∧ b < w.heap.size ∧ t.ok w ∧ (-9223372036854775808 ≤ sd ∧ sd ≤ 9223372036854775807) ∧
    w.cell? ⟨b, off + k * 10, none⟩ = some (.int .i64 sd) ∧ w.cell? ⟨b, off + k * 10 + 1, none⟩ = some (.int .i64 t.sp) ∧ w.cell? ⟨b, off + k * 10 + 2, none⟩ = some (.int .i64 t.dp) ∧ w.cell? ⟨b, off + k * 10 + 3, none⟩ = some (.int .u32 t.sq) ∧ w.cell? ⟨b, off + k * 10 + 4, none⟩ = some (.int .u32 t.ak) ∧ w.cell? ⟨b, off + k * 10 + 5, none⟩ = some (.int .i64 t.fl) ∧ w.cell? ⟨b, off + k * 10 + 6, none⟩ = some (.int .i64 t.wi) ∧ w.cell? ⟨b, off + k * 10 + 7, none⟩ = some (.int .i64 t.ur) ∧ w.cell? ⟨b, off + k * 10 + 8, none⟩ = some (.slice t.Ao t.no t.co) ∧ w.cell? ⟨b, off + k * 10 + 9, none⟩ = some (.slice t.Ab t.nb t.cb) := by
  obtain ⟨b, off, e, hl, hc⟩ := h.2.2 k hk
  have hkl : k < l.length := by rw [h.1]; exact hk
  have hm : l[k]! ∈ l := by rw [getElem!_pos l k hkl]; exact List.getElem_mem hkl
  have hok := h.2.1 _ hm
  generalize l[k]! = x at hok hc
  obtain ⟨sd, t⟩ := x
  exact ⟨b, off, sd, t, e, hl, hok.1, hok.2, hc 0 _ rfl, hc 1 _ rfl, hc 2 _ rfl, hc 3 _ rfl, hc 4 _ rfl, hc 5 _ rfl, hc 6 _ rfl, hc 7 _ rfl, hc 8 _ rfl, hc 9 _ rfl⟩
section
variable {H : Type} {enc : TypeId × Value → H} {w : World} {held : Bool}
theorem word_of_cells {n : Nat} {cs : List Value} {y : DataW H × List MemPlace} (hl : cs.length = 10) (h : DataW.trod enc Try.prog w 0 (fun _ => true) held n 40 cs = some y) : ∃ x : Wd, cs = x.cells ∧ x.ok w := by
  obtain ⟨xs, m, _, _, _, hx, hg⟩ := DataW.trod_struct Try.underlying40 h
  have hx2 : xs.length = 2 := hx
  have c1 : Try.prog.cellsOf 3 = 1 := by kernel_rfl
  have c2 : Try.prog.cellsOf 30 = 9 := by kernel_rfl
  match cs, hl with
  | [x0, x1, x2, x3, x4, x5, x6, x7, x8, x9], _ =>
    have h0 : DataW.trod enc Try.prog w 0 (fun _ => true) held m 3 (([x0, x1, x2, x3, x4, x5, x6, x7, x8, x9].drop 0).take (Try.prog.cellsOf 3)) = some (xs[0]'(by omega)) := (hg 0 _ rfl).trans (List.getElem?_eq_getElem (by omega))
    have h1 : DataW.trod enc Try.prog w 0 (fun _ => true) held m 30 (([x0, x1, x2, x3, x4, x5, x6, x7, x8, x9].drop 1).take (Try.prog.cellsOf 30)) = some (xs[1]'(by omega)) := (hg 1 _ rfl).trans (List.getElem?_eq_getElem (by omega))
    rw [c1] at h0
    rw [c2] at h1
    simp only [List.drop_zero, List.drop_succ_cons, List.take_succ_cons, List.take_zero] at h0 h1
    obtain ⟨a, ha, _, w0⟩ := DataW.trod_int Try.underlying3 h0
    obtain ⟨t, ht, hok⟩ := tcp_cells rfl h1
    simp only [List.cons.injEq, and_true] at ha
    subst ha
    exact ⟨⟨a, t⟩, by rw [ht]; rfl, hok, bounds_i64 w0⟩
theorem open_words {r : Reach} {b0 : Nat} {v : Value} {d : DataW H} {p : List MemPlace} (hv : Value.okWide Try.prog w r b0 38 v) (h : DataW.Trod enc Try.prog w 0 (fun _ => true) held 38 v d p) :
    ∃ A n c l, v = .slice A n c ∧ WordsRd w A n l ∧ n ≤ c ∧ c ≤ 9223372036854775807 := by
  obtain ⟨a, len, cap, rfl⟩ := okWide_slice Try.underlying38 hv
  obtain ⟨fuel, hf⟩ := h
  obtain ⟨A, n, c, l, hvs, hl, hok, hc, hnc, hcc⟩ := open_rows Try.underlying38 10 (by kernel_rfl) (by decide) Wd.cells (Wd.ok w) (fun n cs y hl h => word_of_cells hl h) hf
  exact ⟨A, n, c, l, hvs, ⟨hl, hok, hc⟩, hnc, hcc⟩
end
end Go.Proofs.Ytliibpajgdncpaa
