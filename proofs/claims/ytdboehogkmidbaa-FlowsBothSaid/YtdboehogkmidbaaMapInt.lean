/- A map from int to int in memory, entry by entry. No program in sight. -/
import Derived.Test.YtdboehogkmidbaaBlkOps
import Derived.WideKeyEntry
import Derived.MapKept
namespace Go.Proofs.Ytdboehogkmidbaa
open Go.RowKit Go.MapKept Go.WideElems
open Go.ChangeMaps (setBlock)
set_option linter.unusedVariables false
set_option linter.unusedSimpArgs false
namespace Mi
/-- key, value, birth -/
abbrev E := Int × Int × Nat
def toE (e : E) : MapEntry := ⟨.int .i64 e.1, .int .i64 e.2.1, e.2.2⟩
def get (es : List E) (k : Int) : Option Int := (es.find? (fun e => e.1 == k)).map (·.2.1)
def born (es : List E) (k : Int) : Nat := ((es.find? (fun e => e.1 == k)).map (·.2.2)).getD 0
def setv (es : List E) (k v : Int) : List E := es.map (fun e => if e.1 = k then (e.1, v, e.2.2) else e)
def del (es : List E) (k : Int) : List E := es.filter (fun e => e.1 != k)
structure Ok (es : List E) (clock : Nat) : Prop where
  keys : (es.map (·.1)).Nodup
  borns : (es.map (·.2.2)).Nodup
  less : ∀ e ∈ es, e.2.2 < clock
theorem setv_keys (es : List E) (k v : Int) : (setv es k v).map (·.1) = es.map (·.1) := by
  unfold setv
  rw [List.map_map]
  apply List.map_congr_left
  intro e _
  simp only [Function.comp]
  split <;> rfl
theorem setv_borns (es : List E) (k v : Int) : (setv es k v).map (·.2.2) = es.map (·.2.2) := by
  unfold setv
  rw [List.map_map]
  apply List.map_congr_left
  intro e _
  simp only [Function.comp]
  split <;> rfl
theorem Ok.setv {es : List E} {c : Nat} (h : Ok es c) (k v : Int) : Ok (setv es k v) c :=
  ⟨by rw [setv_keys]; exact h.keys, by rw [setv_borns]; exact h.borns, fun e he => by
    unfold Mi.setv at he
    obtain ⟨x, hx, rfl⟩ := List.mem_map.1 he
    have := h.less x hx
    split <;> exact this⟩
theorem find_setv {es : List E} {k v q : Int} : (setv es k v).find? (fun e => e.1 == q) = (es.find? (fun e => e.1 == q)).map (fun e => if e.1 = k then (e.1, v, e.2.2) else e) := by
  unfold setv
  rw [List.find?_map]
  congr 1
  apply congrFun
  congr 1
  funext e
  simp only [Function.comp]
  split <;> rfl
theorem get_setv {es : List E} {k v q : Int} : get (setv es k v) q = if q = k then (get es k).map (fun _ => v) else get es q := by
  unfold get
  rw [find_setv]
  split
  · rename_i h
    subst h
    cases hf : es.find? (fun e => e.1 == q) with
    | none => rfl
    | some e =>
      have := List.find?_some hf
      simp only [beq_iff_eq] at this
      simp [this]
  · rename_i h
    cases hf : es.find? (fun e => e.1 == q) with
    | none => rfl
    | some e =>
      have := List.find?_some hf
      simp only [beq_iff_eq] at this
      simp only [Option.map_some]
      rw [if_neg (by rw [this]; exact h)]
theorem born_setv {es : List E} {k v q : Int} : born (setv es k v) q = born es q := by
  unfold born
  rw [find_setv]
  cases hf : es.find? (fun e => e.1 == q) with
  | none => rfl
  | some e => simp only [Option.map_some, Option.getD_some]; split <;> rfl
theorem Ok.add {es : List E} {c : Nat} (h : Ok es c) {k v : Int} (hn : get es k = none) : Ok (es ++ [(k, v, c)]) (c + 1) := by
  have hk : ∀ e ∈ es, e.1 ≠ k := by
    intro e he e1
    unfold get at hn
    rw [Option.map_eq_none_iff, List.find?_eq_none] at hn
    exact hn e he (by simp [e1])
  refine ⟨?_, ?_, ?_⟩
  · rw [List.map_append, List.nodup_append]
    refine ⟨h.keys, by simp, fun a ha b hb => ?_⟩
    obtain ⟨e, he, rfl⟩ := List.mem_map.1 ha
    simp only [List.map_cons, List.map_nil, List.mem_singleton] at hb
    subst hb
    exact hk e he
  · rw [List.map_append, List.nodup_append]
    refine ⟨h.borns, by simp, fun a ha b hb => ?_⟩
    obtain ⟨e, he, rfl⟩ := List.mem_map.1 ha
    simp only [List.map_cons, List.map_nil, List.mem_singleton] at hb
    subst hb
    have := h.less e he
    omega
  · intro e he
    rw [List.mem_append, List.mem_singleton] at he
    rcases he with he | he
    · have := h.less e he; omega
    · subst he; exact Nat.lt_succ_self c
theorem get_add {es : List E} {c : Nat} {k v q : Int} (hn : get es k = none) : get (es ++ [(k, v, c)]) q = if q = k then some v else get es q := by
  unfold get at *
  rw [List.find?_append]
  split
  · rename_i h
    subst h
    rw [Option.map_eq_none_iff] at hn
    rw [hn]
    simp
  · rename_i h
    cases hf : es.find? (fun e => e.1 == q) with
    | none => simp; exact fun e => h e.symm
    | some e => rfl
theorem Ok.del {es : List E} {c : Nat} (h : Ok es c) (k : Int) : Ok (del es k) c :=
  ⟨(List.filter_sublist.map _).nodup h.keys, (List.filter_sublist.map _).nodup h.borns, fun e he => h.less e (List.mem_filter.1 he).1⟩
theorem get_del {es : List E} {k q : Int} : get (del es k) q = if q = k then none else get es q := by
  unfold get del
  rw [List.find?_filter]
  split
  · rename_i h
    subst h
    rw [Option.map_eq_none_iff, List.find?_eq_none]
    intro e _
    simp
  · rename_i h
    congr 2
    funext e
    by_cases e1 : e.1 = q
    · simp [e1, h]
    · simp [e1]
/-- the place of a key -/
theorem split {es : List E} {c : Nat} (h : Ok es c) {k v : Int} (hg : get es k = some v) : ∃ pre post, es = pre ++ (k, v, born es k) :: post ∧ (∀ e ∈ pre, e.1 ≠ k) ∧ (∀ e ∈ post, e.1 ≠ k) := by
  unfold get at hg
  cases hf : es.find? (fun e => e.1 == k) with
  | none => rw [hf] at hg; cases hg
  | some e =>
    rw [hf] at hg
    injection hg with hg
    obtain ⟨h1, pre, post, h2, h3⟩ := List.find?_eq_some_iff_append.1 hf
    simp only [beq_iff_eq] at h1
    have hb : born es k = e.2.2 := by unfold born; rw [hf]; rfl
    have he : e = (k, v, born es k) := by
      rw [hb]
      obtain ⟨a, b, c'⟩ := e
      simp only at h1 hg ⊢
      rw [h1, hg]
    refine ⟨pre, post, by rw [← he]; exact h2, fun x hx => by have := h3 x hx; simpa using this, fun x hx e1 => ?_⟩
    have hk := h.keys
    rw [h2, List.map_append, List.map_cons] at hk
    have := (List.nodup_append.1 hk).2.1
    rw [List.nodup_cons] at this
    exact this.1 (List.mem_map.2 ⟨x, hx, by rw [e1, h1]⟩)
theorem findNow_none {k : Int} : ∀ (es : List E) (i : Nat), (∀ e ∈ es, e.1 ≠ k) → Instr.findNow (.int .i64) (.int .i64 k) (es.map toE) i = some none
  | [], i, h => rfl
  | e :: es, i, h => by
    have h1 := h e (by simp)
    have h2 := findNow_none es (i + 1) (fun x hx => h x (by simp [hx]))
    simp only [List.map_cons, Instr.findNow, toE, Instr.sameNow]
    rw [if_pos trivial, show (k == e.1) = false by simpa using Ne.symm h1]
    exact h2
theorem findNow_some {k v : Int} {b : Nat} {post : List E} : ∀ (pre : List E) (i : Nat), (∀ e ∈ pre, e.1 ≠ k) → Instr.findNow (.int .i64) (.int .i64 k) ((pre ++ (k, v, b) :: post).map toE) i = some (some (i + pre.length, .int .i64 v))
  | [], i, h => by
    simp only [List.nil_append, List.map_cons, Instr.findNow, toE, Instr.sameNow]
    rw [if_pos trivial, show (k == k) = true by simp]
    rfl
  | e :: pre, i, h => by
    have h1 := h e (by simp)
    have h2 := findNow_some (k := k) (v := v) (b := b) (post := post) pre (i + 1) (fun x hx => h x (by simp [hx]))
    simp only [List.cons_append, List.map_cons, Instr.findNow, toE, Instr.sameNow] at h2 ⊢
    rw [if_pos trivial, show (k == e.1) = false by simpa using Ne.symm h1]
    rw [List.length_cons, show i + (pre.length + 1) = i + 1 + pre.length by omega]
    exact h2
theorem none_keys {es : List E} {k : Int} (hn : get es k = none) : ∀ e ∈ es, e.1 ≠ k := by
  intro e he e1
  unfold get at hn
  rw [Option.map_eq_none_iff, List.find?_eq_none] at hn
  exact hn e he (by simp [e1])
end Mi
/-- block g of w is the map es -/
structure MapE (w : World) (g : Nat) (es : List Mi.E) (clock : Nat) : Prop where
  blk : w.heap[g]? = some (.map (es.map Mi.toE).toArray clock)
  ok : Mi.Ok es clock
theorem MapE.lt {w : World} {g : Nat} {es : List Mi.E} {c : Nat} (h : MapE w g es c) : g < w.heap.size := (Array.getElem?_eq_some_iff.1 h.blk).1
theorem onlyB_setBlock {w : World} {g : Nat} {o o' : Obj} (hb : w.heap[g]? = some o) : OnlyB g w (setBlock w g o') where
  os := rfl
  out := rfl
  size := by simp [setBlock]
  block := fun k hk => by simp [setBlock, Ne.symm hk]
  bel := fun {B a} hB h => ⟨h.os, h.tape, h.output, by simpa [setBlock] using h.size, fun k hk => by
    have : (setBlock w g o').heap[k]? = w.heap[k]? := by
      have : g ≠ k := by omega
      simp [setBlock, this]
    rw [this]; exact h.block k hk⟩
theorem heap_setBlock {w : World} {g : Nat} {o o' : Obj} (hb : w.heap[g]? = some o) : (setBlock w g o').heap[g]? = some o' := (heap_set hb).1
section
variable {P : Program} {w : World} {t k e : TypeId} {g : Nat} {es : List Mi.E} {c : Nat}
theorem MapE.lookup (h : MapE w g es c) (ht : P.underlying t = some (.map k e)) (hk : P.underlying k = some (.int .i64)) (hz : (zeroValue e).run P w = .ok (.int .i64 0) w) (q : Int) :
    (Instr.lookup t (.map (some g)) (.int .i64 q) true).run P w = .ok (.tuple #[.int .i64 ((Mi.get es q).getD 0), .bool (Mi.get es q).isSome]) w := by
  have hc : ∀ b : Bool, (Instr.checkKey b 10000 k (.int .i64 q)).run P w = .ok () w := fun b => run_checkKey (P := P) (w := w) (kt := k) (d := .int .i64) (k := .int .i64 q) hk (by simp [IsKey]) b 9999
  cases hg : Mi.get es q with
  | none =>
    have hf := run_findKey (P := P) (w := w) (kt := k) hk (Mi.findNow_none es 0 (Mi.none_keys hg))
    simp [Instr.lookup, run_underlying ht, MapKept.run_getObj_map h.blk, hc, hf, hz, Result.andThen]
  | some v =>
    obtain ⟨pre, post, he, h1, h2⟩ := Mi.split h.ok hg
    have hf := run_findKey (P := P) (w := w) (kt := k) hk (Mi.findNow_some (k := q) (v := v) (b := Mi.born es q) (post := post) pre 0 h1)
    rw [← he] at hf
    simp [Instr.lookup, run_underlying ht, MapKept.run_getObj_map h.blk, hc, hf, Result.andThen]
theorem MapE.new (h : MapE w g es c) (ht : P.underlying t = some (.map k e)) (hk : P.underlying k = some (.int .i64)) {q : Int} (v : Int) (hg : Mi.get es q = none) :
    ∃ w', (Instr.mapUpdate t (.map (some g)) (.int .i64 q) (.int .i64 v)).run P w = .ok () w' ∧ MapE w' g (es ++ [(q, v, c)]) (c + 1) ∧ OnlyB g w w' := by
  have hc : ∀ b : Bool, (Instr.checkKey b 10000 k (.int .i64 q)).run P w = .ok () w := fun b => run_checkKey (P := P) (w := w) (kt := k) (d := .int .i64) (k := .int .i64 q) hk (by simp [IsKey]) b 9999
  have hf := run_findKey (P := P) (w := w) (kt := k) hk (Mi.findNow_none es 0 (Mi.none_keys hg))
  refine ⟨setBlock w g (.map ((es ++ [(q, v, c)]).map Mi.toE).toArray (c + 1)), ?_, ⟨heap_setBlock h.blk, h.ok.add hg⟩, onlyB_setBlock h.blk⟩
  simp [Instr.mapUpdate, run_underlying ht, MapKept.run_getObj_map h.blk, hc, hf, MapKept.run_setObj_map _ h.blk, Result.andThen, setBlock, Mi.toE]
theorem MapE.entry (h : MapE w g es c) (ht : P.underlying t = some (.map k e)) (hk : P.underlying k = some (.int .i64)) {q v : Int} (hg : Mi.get es q = some v) :
    ∃ w', (Instr.mapEntry t (.map (some g)) (.int .i64 q)).run P w = .ok (.tuple #[.int .i64 v, goInt (Mi.born es q)]) w' ∧ MapE w' g es c ∧ OnlyB g w w' := by
  have hc : ∀ b : Bool, (Instr.checkKey b 10000 k (.int .i64 q)).run P w = .ok () w := fun b => run_checkKey (P := P) (w := w) (kt := k) (d := .int .i64) (k := .int .i64 q) hk (by simp [IsKey]) b 9999
  obtain ⟨pre, post, he, h1, h2⟩ := Mi.split h.ok hg
  have hf := run_findKey (P := P) (w := w) (kt := k) hk (Mi.findNow_some (k := q) (v := v) (b := Mi.born es q) (post := post) pre 0 h1)
  rw [← he] at hf
  rw [Nat.zero_add] at hf
  have hj : ((es.map Mi.toE).toArray)[pre.length]? = some (Mi.toE (q, v, Mi.born es q)) := by
    rw [List.getElem?_toArray, List.getElem?_map]
    conv => lhs; rw [he]
    simp
  have hsame : ((es.map Mi.toE).toArray).modify pre.length (fun e => { e with key := .int .i64 q }) = (es.map Mi.toE).toArray := by
    apply Array.ext'
    rw [Array.toList_modify]
    have h2' : (es.map Mi.toE)[pre.length]? = some (Mi.toE (q, v, Mi.born es q)) := by simpa using hj
    rw [show ((es.map Mi.toE).toArray).toList = es.map Mi.toE by simp, Go.ChangeMaps.modify_eq_set _ _ _ _ h2']
    exact set_self _ _ _ h2'
  refine ⟨setBlock w g (.map (es.map Mi.toE).toArray c), ?_, ⟨heap_setBlock h.blk, h.ok⟩, onlyB_setBlock h.blk⟩
  have hel : es[pre.length]? = some (q, v, Mi.born es q) := by
    conv => lhs; rw [he]
    simp
  have hst := run_keyThatStays (P := P) (w := w) (d := .int .i64) (k := .int .i64 q) (by simp [IsKey])
  simp [Instr.mapEntry, run_underlying ht, MapKept.run_getObj_map h.blk, hc, hf, hel, hst, Mi.toE, Result.andThen]
  have hs2 : (List.map Mi.toE es).modify pre.length (fun e => { key := .int .i64 q, val := e.val, born := e.born }) = es.map Mi.toE := by
    have := congrArg Array.toList hsame
    rw [Array.toList_modify] at this
    simpa using this
  rw [hs2, MapKept.run_setObj_map _ h.blk]
  rfl
theorem MapE.store (h : MapE w g es c) {q v : Int} (x : Int) (hg : Mi.get es q = some v) :
    ∃ w', (Instr.entryStore t (.map (some g)) (goInt (Mi.born es q)) (.int .i64 x)).run P w = .ok () w' ∧ MapE w' g (Mi.setv es q x) c ∧ OnlyB g w w' := by
  obtain ⟨pre, post, he, h1, h2⟩ := Mi.split h.ok hg
  have hj : (es.map Mi.toE)[pre.length]? = some (Mi.toE (q, v, Mi.born es q)) := by
    rw [List.getElem?_map]
    conv => lhs; rw [he]
    simp
  have hidx : ((es.map Mi.toE).toArray).findIdx? (fun e => ((e.born : Nat) : Int) == ((Mi.born es q : Nat) : Int)) = some pre.length := by
    rw [findIdx_arr]
    have := findIdx_born (l := es.map Mi.toE) (j := pre.length) (e0 := Mi.toE (q, v, Mi.born es q)) (by
      rw [List.map_map]
      exact h.ok.borns) hj
    exact this
  have hmod : ((es.map Mi.toE).toArray).modify pre.length (fun e => { e with val := .int .i64 x }) = ((Mi.setv es q x).map Mi.toE).toArray := by
    apply Array.ext'
    rw [Array.toList_modify, show ((es.map Mi.toE).toArray).toList = es.map Mi.toE by simp, Go.ChangeMaps.modify_eq_set _ _ _ _ hj]
    have e1 : ∀ l : List Mi.E, (∀ e ∈ l, e.1 ≠ q) → Mi.setv l q x = l := fun l hl => by
      unfold Mi.setv
      conv => rhs; rw [← List.map_id l]
      apply List.map_congr_left
      intro e he
      rw [if_neg (hl e he)]; rfl
    have e2 : Mi.setv es q x = pre ++ (q, x, Mi.born es q) :: post := by
      conv => lhs; rw [he]
      unfold Mi.setv
      rw [List.map_append, List.map_cons, if_pos rfl]
      have p1 := e1 pre h1
      have p2 := e1 post h2
      unfold Mi.setv at p1 p2
      rw [p1, p2]
    rw [e2]
    obtain ⟨bb, hbb⟩ : ∃ bb, bb = Mi.born es q := ⟨_, rfl⟩
    rw [← hbb] at he ⊢
    conv => lhs; rw [he]
    simp [Mi.toE]
  refine ⟨setBlock w g (.map ((Mi.setv es q x).map Mi.toE).toArray c), ?_, ⟨heap_setBlock h.blk, h.ok.setv q x⟩, onlyB_setBlock h.blk⟩
  simp [Instr.entryStore, MapKept.run_getObj_map h.blk, asInt, asIntOf, goInt, hidx, hmod, MapKept.run_setObj_map _ h.blk, Result.andThen, setBlock]
end
end Go.Proofs.Ytdboehogkmidbaa
