/- Shifts of segments over numbers. No program in sight. A word out of four bytes, by '|'. No program in sight. Whole structs loaded from and stored into blocks that are known whole: one fact a block, not one a cell. No program in sight. A row of the call's own beside a store into a block of another type. No program in sight. The walk of proxy.add: four bytes of a row of the call's own. The walks of the shifter's there, back. The walk of the shifter's back. -/
import Derived.Test.YtpidpbjbgjkaaaaDoorOwn
import Derived.Test.YtpidpbjbgjkaaaaDoorBlkV
import Derived.Deep.MidRow
import Derived.OrdersHeld
import Derived.Deep.RegionHeld
import Derived.Test.YtpidpbjbgjkaaaaDoorChecked
import Derived.BigQuiet
import Derived.Deep.RegionHeld3
import Derived.Deep.Cut
namespace Go.Proofs.YtpidpbjbgjkaaaaDoor
open Go.RowKit
set_option linter.unusedVariables false
namespace Prox
def w4 (n : Int) : List Int := [n / 16777216 % 256, n / 65536 % 256, n / 256 % 256, n % 256]
def word (a b c d : Int) : Int := a * 16777216 + b * 65536 + c * 256 + d
/-- all words of four bytes further on -/
def sh (m : Int) : List Int → List Int
  | a :: b :: c :: d :: t => w4 ((word a b c d + m) % 4294967296) ++ sh m t
  | l => l
/-- the first word alone -/
def sh1 (m : Int) : List Int → List Int
  | a :: b :: c :: d :: t => w4 ((word a b c d + m) % 4294967296) ++ t
  | l => l
theorem sh1_len (m : Int) : ∀ l, (sh1 m l).length = l.length
  | [] => rfl
  | [_] => rfl
  | [_, _] => rfl
  | [_, _, _] => rfl
  | _ :: _ :: _ :: _ :: t => rfl
theorem sh_len (m : Int) : ∀ l, (sh m l).length = l.length
  | [] => rfl
  | [_] => rfl
  | [_, _] => rfl
  | [_, _, _] => rfl
  | a :: b :: c :: d :: t => by simp [sh, w4, sh_len m t]
theorem w4_isB (n : Int) : isB (w4 n) := by
  intro x hx
  simp only [w4, List.mem_cons, List.not_mem_nil, or_false] at hx
  omega
theorem isB_cons {a : Int} {l : List Int} (h : isB (a :: l)) : (0 ≤ a ∧ a ≤ 255) ∧ isB l := ⟨h a (by simp), fun x hx => h x (by simp [hx])⟩
theorem isB_app {a b : List Int} (ha : isB a) (hb : isB b) : isB (a ++ b) := by
  intro x hx
  rcases List.mem_append.1 hx with h | h
  · exact ha x h
  · exact hb x h
theorem isB_take {l : List Int} (h : isB l) (k : Nat) : isB (l.take k) := fun x hx => h x (List.mem_of_mem_take hx)
theorem isB_drop {l : List Int} (h : isB l) (k : Nat) : isB (l.drop k) := fun x hx => h x (List.mem_of_mem_drop hx)
theorem sh1_isB (m : Int) : ∀ l, isB l → isB (sh1 m l)
  | [], h => h
  | [_], h => h
  | [_, _], h => h
  | [_, _, _], h => h
  | a :: b :: c :: d :: t, h => isB_app (w4_isB _) (fun x hx => h x (by simp [hx]))
theorem sh_isB (m : Int) : ∀ l, isB l → isB (sh m l)
  | [], h => h
  | [_], h => h
  | [_, _], h => h
  | [_, _, _], h => h
  | a :: b :: c :: d :: t, h => isB_app (w4_isB _) (sh_isB m t (fun x hx => h x (by simp [hx])))
theorem w4_word {a b c d : Int} (ha : 0 ≤ a ∧ a ≤ 255) (hb : 0 ≤ b ∧ b ≤ 255) (hc : 0 ≤ c ∧ c ≤ 255) (hd : 0 ≤ d ∧ d ≤ 255) : w4 (word a b c d % 4294967296) = [a, b, c, d] := by
  unfold w4 word
  simp only [List.cons.injEq, and_true]
  omega
theorem word_w4 (n : Int) : word (n / 16777216 % 256) (n / 65536 % 256) (n / 256 % 256) (n % 256) = n % 4294967296 := by
  unfold word
  omega
/-- nothing further is nothing -/
theorem sh_zero : ∀ l, isB l → sh 0 l = l
  | [], _ => rfl
  | [_], _ => rfl
  | [_, _], _ => rfl
  | [_, _, _], _ => rfl
  | a :: b :: c :: d :: t, h => by
    have ha := isB_cons h
    have hb := isB_cons ha.2
    have hc := isB_cons hb.2
    have hd := isB_cons hc.2
    simp only [sh, Int.add_zero]
    rw [w4_word ha.1 hb.1 hc.1 hd.1, sh_zero t hd.2]
    rfl
/-- one behind the other is both together -/
theorem sh_sh (m k : Int) : ∀ l, sh k (sh m l) = sh ((m + k) % 4294967296) l
  | [] => rfl
  | [_] => rfl
  | [_, _] => rfl
  | [_, _, _] => rfl
  | a :: b :: c :: d :: t => by
    simp only [sh, w4, List.cons_append, List.nil_append]
    rw [word_w4, sh_sh m k t]
    congr 1
    · omega
    congr 1
    · omega
    congr 1
    · omega
    congr 1
    · omega
theorem sh_mod (m : Int) : ∀ l, sh (m % 4294967296) l = sh m l
  | [] => rfl
  | [_] => rfl
  | [_, _] => rfl
  | [_, _, _] => rfl
  | a :: b :: c :: d :: t => by
    simp only [sh]
    rw [sh_mod m t, Int.add_emod_emod]
theorem sh1_app (m : Int) (l : List Int) (hl : 4 ≤ l.length) : sh1 m l = sh m (l.take 4) ++ l.drop 4 := by
  match l, hl with
  | a :: b :: c :: d :: t, _ => simp [sh1, sh, w4]
theorem sh_app (m : Int) : ∀ (k : Nat) (a b : List Int), a.length = 4 * k → sh m (a ++ b) = sh m a ++ sh m b
  | 0, a, b, h => by
    obtain rfl : a = [] := List.eq_nil_of_length_eq_zero (by omega)
    rfl
  | k + 1, a, b, h => by
    match a, h with
    | x :: y :: z :: u :: t, h =>
      simp only [List.cons_append, sh, List.append_assoc]
      rw [sh_app m k t b (by simp at h; omega)]
/-- the round at place 4 k -/
theorem sh_round (m : Int) (l : List Int) (k : Nat) (h : 4 * k + 4 ≤ l.length) : sh m (l.take (4 * k)) ++ sh1 m (l.drop (4 * k)) = sh m (l.take (4 * (k + 1))) ++ l.drop (4 * (k + 1)) := by
  have h1 : l.take (4 * (k + 1)) = l.take (4 * k) ++ (l.drop (4 * k)).take 4 := by rw [show 4 * (k + 1) = 4 * k + 4 by omega, List.take_add]
  rw [h1, sh_app m k _ _ (by rw [List.length_take]; omega), sh1_app m _ (by rw [List.length_drop]; omega), List.append_assoc, List.drop_drop, show 4 * (k + 1) = 4 * k + 4 by omega]
abbrev O := Int × List Int
/-- an option on the way to the server -/
def there (sq st : Int) (o : O) : O := if o.1 = 5 ∧ o.2.length % 8 = 0 ∧ o.2.length ≤ 32 then (o.1, sh sq o.2) else if o.1 = 8 ∧ o.2.length = 8 then (o.1, o.2.take 4 ++ sh st (o.2.drop 4)) else o
/-- an option on the way to the client; st: what is added -/
def back (st : Int) (o : O) : O := if o.1 = 8 ∧ o.2.length = 8 then (o.1, sh st (o.2.take 4) ++ o.2.drop 4) else o
theorem there_len (sq st : Int) (o : O) : (there sq st o).2.length = o.2.length ∧ (there sq st o).1 = o.1 := by
  unfold there
  split
  · exact ⟨sh_len _ _, rfl⟩
  · split
    · exact ⟨by simp [sh_len]; omega, rfl⟩
    · exact ⟨rfl, rfl⟩
theorem back_len (st : Int) (o : O) : (back st o).2.length = o.2.length ∧ (back st o).1 = o.1 := by
  unfold back
  split
  · exact ⟨by simp [sh_len]; omega, rfl⟩
  · exact ⟨rfl, rfl⟩
theorem there_isB (sq st : Int) (o : O) (h : isB o.2) : isB (there sq st o).2 := by
  unfold there
  split
  · exact sh_isB _ _ h
  · split
    · exact isB_app (isB_take h 4) (sh_isB _ _ (isB_drop h 4))
    · exact h
theorem back_isB (st : Int) (o : O) (h : isB o.2) : isB (back st o).2 := by
  unfold back
  split
  · exact isB_app (sh_isB _ _ (isB_take h 4)) (isB_drop h 4)
  · exact h
theorem there_zero (o : O) (h : isB o.2) : there 0 0 o = o := by
  obtain ⟨k, l⟩ := o
  unfold there
  simp only at h ⊢
  split
  · rw [sh_zero l h]
  · split
    · rw [sh_zero _ (isB_drop h 4), List.take_append_drop]
    · rfl
theorem back_zero (o : O) (h : isB o.2) : back 0 o = o := by
  obtain ⟨k, l⟩ := o
  unfold back
  simp only at h ⊢
  split
  · rw [sh_zero _ (isB_take h 4), List.take_append_drop]
  · rfl
theorem there_there (a b c d : Int) (o : O) : there c d (there a b o) = there ((a + c) % 4294967296) ((b + d) % 4294967296) o := by
  obtain ⟨k, l⟩ := o
  by_cases h1 : k = 5 ∧ l.length % 8 = 0 ∧ l.length ≤ 32
  · have e : ∀ x y, there x y (k, l) = (k, sh x l) := fun x y => by unfold there; rw [if_pos h1]
    rw [e, e]
    unfold there
    rw [if_pos (by simp only [sh_len]; exact h1)]
    simp only [sh_sh]
  · by_cases h2 : k = 8 ∧ l.length = 8
    · have e : ∀ x y, there x y (k, l) = (k, l.take 4 ++ sh y (l.drop 4)) := fun x y => by unfold there; rw [if_neg h1, if_pos h2]
      rw [e, e]
      unfold there
      have hl : (l.take 4 ++ sh b (l.drop 4)).length = 8 := by simp [sh_len]; omega
      rw [if_neg (by simp only; omega), if_pos ⟨h2.1, hl⟩]
      have t4 : (l.take 4).length = 4 := by rw [List.length_take]; omega
      rw [List.take_left' t4, List.drop_left' t4, sh_sh]
    · have e : ∀ x y, there x y (k, l) = (k, l) := fun x y => by unfold there; rw [if_neg h1, if_neg h2]
      rw [e, e, e]
theorem back_back (b d : Int) (o : O) : back d (back b o) = back ((b + d) % 4294967296) o := by
  obtain ⟨k, l⟩ := o
  by_cases h2 : k = 8 ∧ l.length = 8
  · have e : ∀ y, back y (k, l) = (k, sh y (l.take 4) ++ l.drop 4) := fun y => by unfold back; rw [if_pos h2]
    rw [e, e]
    unfold back
    have t4 : (l.take 4).length = 4 := by rw [List.length_take]; omega
    have s4 : (sh b (l.take 4)).length = 4 := by rw [sh_len]; exact t4
    have hl : (sh b (l.take 4) ++ l.drop 4).length = 8 := by simp [sh_len]; omega
    rw [if_pos ⟨h2.1, hl⟩, List.take_left' s4, List.drop_left' s4, sh_sh]
  · have e : ∀ y, back y (k, l) = (k, l) := fun y => by unfold back; rw [if_neg h2]
    rw [e, e, e]
theorem there_mod (a b : Int) (o : O) : there (a % 4294967296) (b % 4294967296) o = there a b o := by
  unfold there; rw [sh_mod, sh_mod]
theorem back_mod (b : Int) (o : O) : back (b % 4294967296) o = back b o := by
  unfold back; rw [sh_mod]
end Prox
end Go.Proofs.YtpidpbjbgjkaaaaDoor
namespace Go.Proofs.YtpidpbjbgjkaaaaDoor
open Go.RowKit
set_option linter.unusedVariables false
namespace Px
theorem nat_or (j a b : Nat) (hb : b < 2 ^ j) : (a * 2 ^ j) ||| b = a * 2 ^ j + b := by
  have := Nat.shiftLeft_add_eq_or_of_lt hb a
  rw [Nat.shiftLeft_eq] at this
  exact this.symm
theorem u32_or_nat (a b : Nat) (ha : a < 4294967296) (hb : b < 4294967296) : bits .or .u32 (a : Int) (b : Int) = ((a ||| b : Nat) : Int) := by
  have e1 : (BitVec.ofInt 32 (a : Int)).toNat = a := by rw [BitVec.toNat_ofInt]; omega
  have e2 : (BitVec.ofInt 32 (b : Int)).toNat = b := by rw [BitVec.toNat_ofInt]; omega
  have h := Nat.or_lt_two_pow (n := 32) (show a < 2 ^ 32 by omega) (show b < 2 ^ 32 by omega)
  show IntKind.u32.wrap (((BitVec.ofInt 32 (a : Int) ||| BitVec.ofInt 32 (b : Int)).toNat : Nat) : Int) = _
  rw [BitVec.toNat_or, e1, e2, IntKind.wrap_u32]
  omega
theorem u32_or {a b : Int} (j : Nat) (ha : ∃ k : Nat, a = k * 2 ^ j ∧ k * 2 ^ j < 2 ^ 32) (hb0 : 0 ≤ b) (hb : b < 2 ^ j) (hb32 : b < 4294967296) : bits .or .u32 a b = a + b := by
  obtain ⟨k, rfl, hk⟩ := ha
  obtain ⟨y, rfl⟩ := Int.eq_ofNat_of_zero_le hb0
  have hy : y < 2 ^ j := by exact_mod_cast hb
  have e : ((k : Int) * 2 ^ j) = ((k * 2 ^ j : Nat) : Int) := by push_cast; rfl
  rw [e, u32_or_nat _ _ hk (by omega), nat_or _ _ _ hy]
  push_cast
  rfl
theorem word_or {a b c d : Int} (a0 : 0 ≤ a) (a1 : a ≤ 255) (b0 : 0 ≤ b) (b1 : b ≤ 255) (c0 : 0 ≤ c) (c1 : c ≤ 255) (d0 : 0 ≤ d) (d1 : d ≤ 255) :
    bits .or .u32 (bits .or .u32 (bits .or .u32 (a * 16777216) (b * 65536)) (c * 256)) d = a * 16777216 + b * 65536 + c * 256 + d := by
  have e1 : bits .or .u32 (a * 16777216) (b * 65536) = a * 16777216 + b * 65536 := u32_or 24 ⟨a.toNat, by omega, by omega⟩ (by omega) (by omega) (by omega)
  have e2 : bits .or .u32 (a * 16777216 + b * 65536) (c * 256) = a * 16777216 + b * 65536 + c * 256 := u32_or 16 ⟨(a * 256 + b).toNat, by omega, by omega⟩ (by omega) (by omega) (by omega)
  have e3 : bits .or .u32 (a * 16777216 + b * 65536 + c * 256) d = a * 16777216 + b * 65536 + c * 256 + d := u32_or 8 ⟨((a * 256 + b) * 256 + c).toNat, by omega, by omega⟩ (by omega) (by omega) (by omega)
  rw [e1, e2, e3]
end Px
end Go.Proofs.YtpidpbjbgjkaaaaDoor
namespace Go.Proofs.YtpidpbjbgjkaaaaDoor
open Go.RowKit
set_option linter.unusedVariables false
theorem bel_a {w w' : World} (h : Below w.heap.size w w') (o : Obj) : Below w.heap.size w (w'.alloc o) := h.alloc h.size o
theorem bel_n {B : Nat} {w w' : World} (h : Below B w w') (k : Nat) : Below B w (w'.drewN k) := ⟨h.os, h.tape, h.output, h.size, h.block⟩
theorem bel_d {B : Nat} {w w' : World} (h : Below B w w') : Below B w w'.drew := ⟨h.os, h.tape, h.output, h.size, h.block⟩
/-- of w' only the block g is another than of w -/
structure OnlyB (g : Nat) (w w' : World) : Prop where
  os : w'.os = w.os
  out : w'.output = w.output
  size : w'.heap.size = w.heap.size
  block : ∀ k, k ≠ g → w'.heap[k]? = w.heap[k]?
  bel : ∀ {B : Nat} {a : World}, B ≤ g → Below B a w → Below B a w'
section
variable {w w' : World} {g g' : Nat} {T : TypeId} {l : List Value}
theorem setCells_blk : ∀ (vs pre post : List Value) (w : World), BlkV w g T (pre ++ post) → post.length = vs.length → BlkV (w.setCells g pre.length vs) g T (pre ++ vs)
  | [], pre, post, w, h, hl => by
    obtain rfl : post = [] := List.eq_nil_of_length_eq_zero hl
    simpa [World.setCells] using h
  | v :: vs, pre, post, w, h, hl => by
    cases post with
    | nil => cases hl
    | cons u us =>
      have h1 := BlkV.put h pre.length v
      have e : (pre ++ u :: us).set pre.length v = (pre ++ [v]) ++ us := by simp
      rw [e] at h1
      have h2 := setCells_blk vs (pre ++ [v]) us _ h1 (by simpa using hl)
      simp only [List.length_append, List.length_cons, List.length_nil, List.append_assoc, List.singleton_append] at h2
      exact h2
theorem BlkV.puts {cs : List Value} (h : BlkV w g T l) (hl : l.length = cs.length) : BlkV (w.setCells g 0 cs) g T cs := by
  have := setCells_blk (g := g) (T := T) cs [] l w h hl
  simpa using this
theorem below_sets {B : Nat} {a : World} (hb : B ≤ g) : ∀ (vs : List Value) (o : Nat) (w : World), Below B a w → Below B a (w.setCells g o vs)
  | [], o, w, h => h
  | v :: vs, o, w, h => below_sets hb vs (o + 1) _ (h.setCell hb _)
theorem sets_size : ∀ (vs : List Value) (o : Nat) (w : World), (w.setCells g o vs).heap.size = w.heap.size
  | [], o, w => rfl
  | v :: vs, o, w => by
    show ((w.setCell ⟨g, o, none⟩ v).setCells g (o + 1) vs).heap.size = _
    rw [sets_size vs]
    simp
theorem sets_block {k : Nat} (hk : k ≠ g) : ∀ (vs : List Value) (o : Nat) (w : World), (w.setCells g o vs).heap[k]? = w.heap[k]?
  | [], o, w => rfl
  | v :: vs, o, w => by
    show ((w.setCell ⟨g, o, none⟩ v).setCells g (o + 1) vs).heap[k]? = _
    rw [sets_block hk vs]
    exact Go.heap_setCell_other w ⟨g, o, none⟩ k v hk
theorem OnlyB.sets (w : World) (g : Nat) (o : Nat) (vs : List Value) : OnlyB g w (w.setCells g o vs) :=
  ⟨(World.keptBut_setCells g (may := fun _ => True) vs o w (fun _ _ => trivial)).1, (World.keptBut_setCells g (may := fun _ => True) vs o w (fun _ _ => trivial)).2.1, sets_size vs o w, fun k hk => sets_block hk vs o w, fun hb h => below_sets hb vs o w h⟩
theorem OnlyB.set (w : World) (g i : Nat) (v : Value) : OnlyB g w (w.setCell ⟨g, i, none⟩ v) := OnlyB.sets w g i [v]
theorem BlkV.only (h : BlkV w g T l) (ho : OnlyB g' w w') (hne : g ≠ g') : BlkV w' g T l := (ho.block g hne).trans h
theorem OnlyB.grown (ho : OnlyB g w w') : w.grownBy w' (some g) := by
  have h := ho.bel (Nat.zero_le g) (Below.refl 0 w)
  exact ⟨h.os, h.tape, h.output, h.size, fun k _ hk => ho.block k (fun e => hk (by rw [e]))⟩
theorem own_only {base : Nat} {e : TypeId} {s n : Nat} {v : Value} {xs : List Value} (h : w.ownsRow base e s v n xs) (ho : OnlyB g w w') (hg : g < base) : w'.ownsRow base e s v n xs :=
  h.kept ho.grown (by
    cases hb : v.ownBlock with
    | none => exact .inl rfl
    | some k =>
      refine .inr fun he => ?_
      injection he with he
      have := (h.lt k hb).1
      omega)
theorem own_weak {base base' : Nat} {e : TypeId} {s n : Nat} {v : Value} {xs : List Value} (h : w.ownsRow base e s v n xs) (hb : base' ≤ base) : w.ownsRow base' e s v n xs := by
  rcases h with ⟨h1, h2 | ⟨g, cap, cur, e1, h3, h4⟩⟩
  · exact ⟨h1, .inl h2⟩
  · exact ⟨h1, .inr ⟨g, cap, cur, e1, Nat.le_trans hb h3, h4⟩⟩
theorem BlkV.there (h : BlkV w g T l) : w.there g 0 l.length := fun j hj => by
  rw [Nat.zero_add]
  refine ⟨?_, h.unfrozen j⟩
  rw [h.cell (List.getElem?_eq_getElem hj)]
  rfl
theorem BlkV.range (h : BlkV w g T l) : w.rangeAt g 0 l := fun j v hv => by
  rw [Nat.zero_add]
  exact h.cell hv
variable {P : Program} {ops : Array Oper} {rest : List Oper} {op : Oper} {a : Act} {Q : Exit → Act → World → Prop}
/-- a whole struct is loaded -/
theorem wpList_ldB (ty : TypeId) (x : Operand) (d : TypeDesc) (ho : op.op = .load ty x) (hgd : op.guard = none) (hx : a.eval x = .pointer (some ⟨g, 0, none⟩)) (h : BlkV w g T l)
    (hu : P.underlying ty = some d) (hd : d.isRow = true) (hi : (P.info? ty).map (·.size) = some l.length)
    (hk : wpList P ops Q rest (a.put op.dst (.agg l.toArray)) w) : wpList P ops Q (op :: rest) a w :=
  wpList_load_mid hgd ty x ho g 0 hx l d h.range hu hd hi hk
/-- a whole struct is stored -/
theorem wpList_stB (ty : TypeId) (x y : Operand) (ho : op.op = .store ty x y) (hgd : op.guard = none) (hx : a.eval x = .pointer (some ⟨g, 0, none⟩)) (cs : List Value) (hy : a.eval y = .agg cs.toArray) (h : BlkV w g T l) (hl : l.length = cs.length)
    (hi : (P.info? ty).map (·.size) = some cs.length) (h1 : cs.all (·.oneCell') = true)
    (hk : ∀ w', BlkV w' g T cs → OnlyB g w w' → wpList P ops Q rest (a.put op.dst undef) w') : wpList P ops Q (op :: rest) a w :=
  wpList_store_mid hgd ty x y ho g 0 cs.toArray hx hy (by have := h.there; rw [hl] at this; simpa using this) (by simpa using hi) (by simpa using h1) (hk _ (by simpa using h.puts hl) (by simpa using OnlyB.sets w g 0 cs))
/-- the same in a drawn region -/
theorem wp_ldB {K : Act → World → Prop} (ty : TypeId) (x : Operand) (d : TypeDesc) (ho : op.op = .load ty x) (hx : a.eval x = .pointer (some ⟨g, 0, none⟩)) (h : BlkV w g T l)
    (hu : P.underlying ty = some d) (hd : d.isRow = true) (hi : (P.info? ty).map (·.size) = some l.length)
    (hk : K (a.put op.dst (.agg l.toArray)) w) : op.wp P a w K Q :=
  wp_load_mid ty x ho g 0 hx l d h.range hu hd hi hk
theorem wp_stB {K : Act → World → Prop} (ty : TypeId) (x y : Operand) (hd : op.dst = none) (ho : op.op = .store ty x y) (hx : a.eval x = .pointer (some ⟨g, 0, none⟩)) (cs : List Value) (hy : a.eval y = .agg cs.toArray) (h : BlkV w g T l) (hl : l.length = cs.length)
    (hi : (P.info? ty).map (·.size) = some cs.length) (h1 : cs.all (·.oneCell') = true)
    (hk : ∀ w', BlkV w' g T cs → OnlyB g w w' → K a w') : op.wp P a w K Q :=
  wp_store_mid ty x y ho g 0 cs.toArray hx hy (by have := h.there; rw [hl] at this; simpa using this) (by simpa using hi) (by simpa using h1) (by rw [hd]; exact hk _ (by simpa using h.puts hl) (by simpa using OnlyB.sets w g 0 cs))
theorem yields_ldB {S : World → Prop} (ty : TypeId) (x : Operand) (d : TypeDesc) (hw : Region.wanted op (yielded ops a.tmps) = true) (ho : op.op = .load ty x) (hx : a.eval x = .pointer (some ⟨g, 0, none⟩)) (hS : ∀ w, S w → BlkV w g T l)
    (hu : P.underlying ty = some d) (hd : d.isRow = true) (hi : (P.info? ty).map (·.size) = some l.length) : YieldsIf P ops S op (.agg l.toArray) a :=
  yieldsIf_load_mid hw ty x ho g 0 hx l d (fun w h => (hS w h).range) hu hd hi
theorem wpAnyH_takeD {md : Region.Mode} {S : World → Prop} {i : Nat} {oi : Oper} (D : Option Tmp) {v : Value} {fuel : Nat} {listed : Array Bool} (hi : ops[i]? = some oi) (hd : oi.dst = D)
    (hs : Region.noSelect ops = true) (hf : Region.free md ops listed i = true) (hr : (Region.ready md ops listed).contains i = true)
    (hQ : ∀ c a w, Q (.panic c) (a.put oi.dst v) w → Q (.panic c) a w) (hy : YieldsIf P ops S oi v a) (hS : S w)
    (h : wpAnyH P md ops Q S fuel (listed.setIfInBounds i true) (a.put D v) w) : wpAnyH P md ops Q S (fuel + 1) listed a w :=
  wpAnyH_take hi hs hf hr hQ hy hS (by rw [hd]; exact h)
/-! ### one cell -/
theorem run_loadVar_one (w : World) (b o : Nat) (ty : TypeId) (v : Value) (d : TypeDesc) (hc : w.cell? ⟨b, o, none⟩ = some v) (hu : P.underlying ty = some d) (hd : d.isRow = false) :
    (loadVar ty ⟨b, o, none⟩).run P w = .ok v w := by
  have hagg : (isAgg ty).run P w = .ok false w := by
    unfold isAgg
    rw [Sem.run_bind, run_underlying hu w]
    cases d <;> simp_all
  simp [loadVar, Sem.run_bind, hagg, hc]
theorem cells_one {v : Value} (h : v.oneCell' = true) : v.cells = #[v] := by
  cases v <;> first | rfl | (simp [Value.oneCell'] at h)
theorem run_storeVar_one (w : World) (b o : Nat) (ty : TypeId) (u v : Value) (hc : w.cell? ⟨b, o, none⟩ = some u) (hf : w.frozen? ⟨b, o, none⟩ = false) (hi : (P.info? ty).map (·.size) = some 1) (h1 : v.oneCell' = true) :
    (storeVar ty ⟨b, o, none⟩ v).run P w = .ok () (w.setCell ⟨b, o, none⟩ v) := by
  have := run_storeCells_cells (P := P) b o [v] 0 w (fun j hj => by
      obtain rfl : j = 0 := by simpa using hj
      simp only [Nat.add_zero]
      rw [hc]; rfl) (fun j hj => by
      obtain rfl : j = 0 := by simpa using hj
      simpa using hf) (fun x hx => by
      rw [List.mem_singleton] at hx
      rw [hx]; exact h1)
  cases hq : P.info? ty with
  | none => simp [hq] at hi
  | some i =>
    have hs : i.size = 1 := by simpa [hq] using hi
    simp only [Nat.add_zero] at this
    simp [storeVar, sizeOf, typeInfo, hq, cells_one h1, hs, this]
    rfl
theorem wp_ldF {K : Act → World → Prop} (ty : TypeId) (x : Operand) (d : TypeDesc) (i : Nat) (v : Value) (ho : op.op = .load ty x) (hx : a.eval x = .pointer (some ⟨g, i, none⟩)) (h : BlkV w g T l) (hv : l[i]? = some v)
    (hu : P.underlying ty = some d) (hd : d.isRow = false)
    (hk : K (a.put op.dst v) w) : op.wp P a w K Q := by
  unfold Oper.wp execOp
  simp only [ho, hx, Instr.loadAt, Instr.sureAddr, Sem.run_bind, Sem.run_pure, Result.andThen_ok, run_loadVar_one w g i ty v d (h.cell hv) hu hd]
  exact hk
theorem wpList_ldF (ty : TypeId) (x : Operand) (d : TypeDesc) (i : Nat) (v : Value) (ho : op.op = .load ty x) (hgd : op.guard = none) (hx : a.eval x = .pointer (some ⟨g, i, none⟩)) (h : BlkV w g T l) (hv : l[i]? = some v)
    (hu : P.underlying ty = some d) (hd : d.isRow = false)
    (hk : wpList P ops Q rest (a.put op.dst v) w) : wpList P ops Q (op :: rest) a w :=
  wpList_plain hgd fun _ hK => wp_ldF ty x d i v ho hx h hv hu hd (hK _ _ hk)
theorem yields_ldF {S : World → Prop} (ty : TypeId) (x : Operand) (d : TypeDesc) (i : Nat) (v : Value) (hw : Region.wanted op (yielded ops a.tmps) = true) (ho : op.op = .load ty x) (hx : a.eval x = .pointer (some ⟨g, i, none⟩)) (hS : ∀ w, S w → w.cell? ⟨g, i, none⟩ = some v)
    (hu : P.underlying ty = some d) (hd : d.isRow = false) : YieldsIf P ops S op v a :=
  .inl ⟨hw, fun w hw' => by
    unfold execOp
    simp only [ho, hx, Instr.loadAt, Instr.sureAddr, Sem.run_bind, Sem.run_pure, Result.andThen_ok, run_loadVar_one w g i ty v d (hS w hw') hu hd]⟩
theorem wp_stF {K : Act → World → Prop} (ty : TypeId) (x y : Operand) (i : Nat) (v : Value) (hd : op.dst = none) (ho : op.op = .store ty x y) (hx : a.eval x = .pointer (some ⟨g, i, none⟩)) (hy : a.eval y = v) (h : BlkV w g T l) (hl : i < l.length)
    (hi : (P.info? ty).map (·.size) = some 1) (h1 : v.oneCell' = true)
    (hk : ∀ w', BlkV w' g T (l.set i v) → OnlyB g w w' → K a w') : op.wp P a w K Q := by
  unfold Oper.wp execOp
  simp only [ho, hx, hy, Instr.storeAt, Instr.sureAddr, Sem.run_bind, Sem.run_pure, Result.andThen_ok, run_storeVar_one w g i ty _ v (h.cell (List.getElem?_eq_getElem hl)) (h.unfrozen i) hi h1]
  show K (a.put op.dst undef) _
  rw [hd]
  exact hk _ (h.put i v) (OnlyB.set w g i v)
theorem wpList_stF (ty : TypeId) (x y : Operand) (i : Nat) (v : Value) (hd : op.dst = none) (ho : op.op = .store ty x y) (hgd : op.guard = none) (hx : a.eval x = .pointer (some ⟨g, i, none⟩)) (hy : a.eval y = v) (h : BlkV w g T l) (hl : i < l.length)
    (hi : (P.info? ty).map (·.size) = some 1) (h1 : v.oneCell' = true)
    (hk : ∀ w', BlkV w' g T (l.set i v) → OnlyB g w w' → wpList P ops Q rest a w') : wpList P ops Q (op :: rest) a w :=
  wpList_plain hgd fun _ hK => wp_stF ty x y i v hd ho hx hy h hl hi h1 fun w' h1 h2 => hK _ _ (hk w' h1 h2)
end
end Go.Proofs.YtpidpbjbgjkaaaaDoor
namespace Go.Proofs.YtpidpbjbgjkaaaaDoor
open Go.RowKit
set_option linter.unusedVariables false
theorem own_st {w w' : World} {base g : Nat} {e T : TypeId} {s n : Nat} {v : Value} {xs l : List Value} (h : w.ownsRow base e s v n xs) (hB : BlkV w g T l) (ho : OnlyB g w w') (hne : e ≠ T) : w'.ownsRow base e s v n xs :=
  h.kept ho.grown (by
    rcases h.2 with ⟨rfl, _⟩ | ⟨g', cap, cur, rfl, _, hg, _⟩
    · exact .inl rfl
    · refine .inr fun he => ?_
      simp only [Value.ownBlock, Option.some.injEq] at he
      subst he
      unfold BlkV at hB
      rw [hg] at hB
      injection hB with hB
      injection hB with _ h3
      exact hne h3)
end Go.Proofs.YtpidpbjbgjkaaaaDoor
namespace Go.Proofs.YtpidpbjbgjkaaaaDoor
open Go.RowKit
set_option linter.unusedVariables false
set_option linter.unusedSimpArgs false
theorem grown_trans {w w1 w2 : World} {g : Option Nat} (h : w.grownBy w1 g) (k : w1.grownBy w2 g) : w.grownBy w2 g :=
  ⟨k.os.trans h.os, k.tape.trans h.tape, k.output.trans h.output, Nat.le_trans h.size k.size, fun i hi hne => (k.block i (Nat.lt_of_lt_of_le hi h.size) hne).trans (h.block i hi hne)⟩
theorem grown_drewN {w w1 : World} {g : Option Nat} (h : w.grownBy w1 g) (k : Nat) : w.grownBy (w1.drewN k) g := ⟨h.os, h.tape, h.output, h.size, h.block⟩
theorem Prox.cut4 {l : List Int} {a : Nat} (h : a + 4 ≤ l.length) : ∃ x0 x1 x2 x3, l[a]? = some x0 ∧ l[a + 1]? = some x1 ∧ l[a + 2]? = some x2 ∧ l[a + 3]? = some x3 ∧ ∀ m y0 y1 y2 y3, Prox.w4 ((Prox.word x0 x1 x2 x3 + m) % 4294967296) = [y0, y1, y2, y3] → ((((l.set a y0).set (a + 1) y1).set (a + 2) y2).set (a + 3) y3) = l.take a ++ Prox.sh1 m (l.drop a) := by
  have e : l.drop a = l[a] :: l[a + 1] :: l[a + 2] :: l[a + 3] :: l.drop (a + 4) := by
    rw [List.drop_eq_getElem_cons (by omega), List.drop_eq_getElem_cons (by omega), List.drop_eq_getElem_cons (by omega), List.drop_eq_getElem_cons (by omega)]
  refine ⟨l[a], l[a + 1], l[a + 2], l[a + 3], List.getElem?_eq_getElem _, List.getElem?_eq_getElem _, List.getElem?_eq_getElem _, List.getElem?_eq_getElem _, fun m y0 y1 y2 y3 hy => ?_⟩
  rw [e]
  simp only [Prox.sh1, hy]
  apply List.ext_getElem?
  intro j
  have hl : (l.take a).length = a := by rw [List.length_take]; omega
  by_cases h1 : j < a
  · rw [List.getElem?_append_left (by omega), List.getElem?_take_of_lt h1]
    rw [List.getElem?_set_ne (by omega), List.getElem?_set_ne (by omega), List.getElem?_set_ne (by omega), List.getElem?_set_ne (by omega)]
  · rw [List.getElem?_append_right (by omega), hl]
    rcases (show j = a ∨ j = a + 1 ∨ j = a + 2 ∨ j = a + 3 ∨ a + 4 ≤ j by omega) with rfl | rfl | rfl | rfl | h4
    · rw [List.getElem?_set_ne (by omega), List.getElem?_set_ne (by omega), List.getElem?_set_ne (by omega), List.getElem?_set_self (by omega)]; simp
    · rw [List.getElem?_set_ne (by omega), List.getElem?_set_ne (by omega), List.getElem?_set_self (by simp; omega)]; simp
    · rw [List.getElem?_set_ne (by omega), List.getElem?_set_self (by simp; omega)]; simp
    · rw [List.getElem?_set_self (by simp; omega)]; simp
    · rw [List.getElem?_set_ne (by omega), List.getElem?_set_ne (by omega), List.getElem?_set_ne (by omega), List.getElem?_set_ne (by omega)]
      rw [show j - a = (j - (a + 4)) + 4 by omega]
      simp only [List.cons_append, List.nil_append, List.getElem?_cons_succ, List.getElem?_drop]
      congr 1
      omega
theorem bs_set (l : List Int) (i : Nat) (x : Int) : (bs l).set i (.int .u8 x) = bs (l.set i x) := by simp [bs, List.map_set]
set_option maxHeartbeats 4000000 in
theorem padd_spec (g a N cap : Nat) (l : List Int) (m : Int) (base : Nat) (w : World) (hown : w.ownsRow base 5 1 (.slice (some ⟨g, 0, none⟩) N cap) N (bs l)) (hB : isB l) (ha : a + 4 ≤ N) (hN : N ≤ 4294967295) (hcap : N ≤ cap) (hm0 : 0 ≤ m) (hm1 : m ≤ 4294967295) :
    Calls Tryd.prog 50 #[.slice (some ⟨g, a, none⟩) (N - a) (cap - a), .int .u32 m] w fun e w' => e = .returned (.tuple #[]) ∧ w'.ownsRow base 5 1 (.slice (some ⟨g, 0, none⟩) N cap) N (bs (l.take a ++ Prox.sh1 m (l.drop a))) ∧ w.grownBy w' (some g) := by
  have hl : l.length = N := by have := hown.1; rw [bs_len] at this; omega
  obtain ⟨x0, x1, x2, x3, e0, e1, e2, e3, hset⟩ := Prox.cut4 (l := l) (a := a) (by omega)
  have b0 := hB x0 (List.mem_of_getElem? e0)
  have b1 := hB x1 (List.mem_of_getElem? e1)
  have b2 := hB x2 (List.mem_of_getElem? e2)
  have b3 := hB x3 (List.mem_of_getElem? e3)
  have k0 : w.cell? ⟨g, a, none⟩ = some (.int .u8 x0) := by rw [hown.cellAt a (by omega), bs, List.getElem?_map, e0]; rfl
  have k1 : w.cell? ⟨g, a + 1, none⟩ = some (.int .u8 x1) := by rw [hown.cellAt (a + 1) (by omega), bs, List.getElem?_map, e1]; rfl
  have k2 : w.cell? ⟨g, a + 2, none⟩ = some (.int .u8 x2) := by rw [hown.cellAt (a + 2) (by omega), bs, List.getElem?_map, e2]; rfl
  have k3 : w.cell? ⟨g, a + 3, none⟩ = some (.int .u8 x3) := by rw [hown.cellAt (a + 3) (by omega), bs, List.getElem?_map, e3]; rfl
  have f0 := hown.frozenAt a
  have f1 := hown.frozenAt (a + 1)
  have f2 := hown.frozenAt (a + 2)
  have f3 := hown.frozenAt (a + 3)
  obtain ⟨n, hn⟩ : ∃ n : Nat, N - a = n := ⟨_, rfl⟩
  obtain ⟨c, hc⟩ : ∃ c : Nat, cap - a = c := ⟨_, rfl⟩
  rw [hn, hc]
  have hn4 : 4 ≤ n := by omega
  have z0 : (0 : Int) < (n : Int) := by omega
  have z1 : (1 : Int) < (n : Int) := by omega
  have z2 : (2 : Int) < (n : Int) := by omega
  have z3 : (3 : Int) < (n : Int) := by omega
  have hor := Px.word_or b0.1 b0.2 b1.1 b1.2 b2.1 b2.2 b3.1 b3.2
  obtain ⟨wd, hwd⟩ : ∃ wd, x0 * 16777216 + x1 * 65536 + x2 * 256 + x3 = wd := ⟨_, rfl⟩
  rw [hwd] at hor
  have hw0 : 0 ≤ wd ∧ wd ≤ 4294967295 := by omega
  obtain ⟨hw0, hw1⟩ := hw0
  have HS : Hid (∀ y0 y1 y2 y3, Prox.w4 ((wd + m) % 4294967296) = [y0, y1, y2, y3] → ((((l.set a y0).set (a + 1) y1).set (a + 2) y2).set (a + 3) y3) = l.take a ++ Prox.sh1 m (l.drop a)) := Lib.hid fun y0 y1 y2 y3 h => hset m y0 y1 y2 y3 (by unfold Prox.word; rw [hwd]; exact h)
  have HO := Lib.hid hown
  obtain ⟨b00, b01⟩ := b0
  obtain ⟨b10, b11⟩ := b1
  obtain ⟨b20, b21⟩ := b2
  obtain ⟨b30, b31⟩ := b3
  obtain ⟨y, hy⟩ : ∃ y, (wd + m) % 4294967296 = y := ⟨_, rfl⟩
  have hy0 : 0 ≤ y ∧ y ≤ 4294967295 := by omega
  obtain ⟨hy0, hy1⟩ := hy0
  rw [hy] at HS
  clear hset hown hB e0 e1 e2 e3 hwd hn hc hl
  go_enter Tryd.func50, Tryd.ntmps50
  go_wp2_with fail
  go_quiet (fail)
  go_wp2_with fail
  go_end0
  have o0 : (w.drewN nq).ownsRow base 5 1 (.slice (some ⟨g, 0, none⟩) N cap) N (bs l) := HO.out
  obtain ⟨o1, q1⟩ := o0.stored a (.int .u8 (y / 16777216))
  obtain ⟨o2, q2⟩ := o1.stored (a + 1) (.int .u8 (y / 65536 % 256))
  obtain ⟨o3, q3⟩ := o2.stored (a + 2) (.int .u8 (y / 256 % 256))
  obtain ⟨o4, q4⟩ := o3.stored (a + 3) (.int .u8 (y % 256))
  rw [bs_set, bs_set, bs_set, bs_set, HS.out (y / 16777216) (y / 65536 % 256) (y / 256 % 256) (y % 256) (by unfold Prox.w4; rw [show y / 16777216 % 256 = y / 16777216 by omega])] at o4
  exact ⟨rfl, o4, grown_trans (grown_drewN (⟨rfl, rfl, rfl, Nat.le_refl _, fun _ _ _ => rfl⟩ : w.grownBy w (some g)) nq) (grown_trans q1 (grown_trans q2 (grown_trans q3 q4)))⟩
end Go.Proofs.YtpidpbjbgjkaaaaDoor
namespace Go.Proofs.YtpidpbjbgjkaaaaDoor
open Go.RowKit
set_option maxRecDepth 8000
set_option linter.unusedVariables false
set_option linter.unusedSimpArgs false
theorem own_blk {w : World} {base : Nat} {e : TypeId} {s n c : Nat} {A : Option Addr} {xs : List Value} (h : w.ownsRow base e s (.slice A n c) n xs) (hn : 0 < n) : ∃ g, A = some ⟨g, 0, none⟩ ∧ base ≤ g ∧ g < w.heap.size ∧ n ≤ c ∧ c ≤ maxLen := by
  rcases h.2 with ⟨_, h0⟩ | ⟨g, cap, cur, hv, hb, hg, h1, h2, _⟩
  · omega
  · injection hv with h3 h4 h5
    exact ⟨g, h3, hb, (Array.getElem?_eq_some_iff.1 hg).1, by omega, by omega⟩
theorem BlkV.grown {w w' : World} {g g' : Nat} {T : TypeId} {l : List Value} (h : BlkV w g T l) (hg : w.grownBy w' (some g')) (hne : g ≠ g') : BlkV w' g T l := (hg.block g h.lt (fun e => hne (by injection e))).trans h
theorem grown_below {w w1 w2 : World} {g : Option Nat} (h : Below w.heap.size w w1) (k : w1.grownBy w2 g) : w.grownBy w2 g :=
  ⟨k.os.trans h.os, k.tape.trans h.tape, k.output.trans h.output, Nat.le_trans h.size k.size, fun i hi hne => (k.block i (Nat.lt_of_lt_of_le hi h.size) hne).trans (h.block i hi)⟩
theorem below_grown {w w1 : World} (h : Below w.heap.size w w1) (g : Option Nat) : w.grownBy w1 g := ⟨h.os, h.tape, h.output, h.size, fun i hi _ => h.block i hi⟩
theorem grown_refl (w : World) (g : Option Nat) : w.grownBy w g := ⟨rfl, rfl, rfl, Nat.le_refl _, fun _ _ _ => rfl⟩
def ThereR (base : Nat) (A : Option Addr) (n c : Nat) (l : List Int) (w : World) (e : Ending) (w' : World) : Prop :=
  e = .returned (.tuple #[]) ∧ w'.ownsRow base 5 1 (.slice A n c) n (bs l) ∧ w.grownBy w' (Value.slice A n c).ownBlock
set_option maxHeartbeats 4000000 in
theorem pthere_sack (k sq st : Int) (A : Option Addr) (n c : Nat) (l : List Int) (base : Nat) (w : World) (hown : w.ownsRow base 5 1 (.slice A n c) n (bs l)) (hB : isB l) (hs0 : 0 ≤ sq) (hs1 : sq ≤ 4294967295) (hk : k = 5) (hn8 : n % 8 = 0) (hn : n ≤ 32) :
    Calls Tryd.prog 34 #[.agg #[.int .u32 sq, .int .u32 st], .agg #[.int .i64 k, .slice A n c]] w (ThereR base A n c (Prox.sh sq l) w) := by
  have hl : l.length = n := by have := hown.1; rw [bs_len] at this; omega
  obtain ⟨K, hK⟩ : ∃ K, n = 4 * K := ⟨n / 4, by omega⟩
  obtain ⟨W, hW⟩ : ∃ W, W = (w.alloc (.cells #[.int .u32 sq, .int .u32 st] 72)).alloc (.cells #[.int .i64 k, .slice A n c] 62) := ⟨_, rfl⟩
  have hbW : Below w.heap.size w W := (by rw [hW]; exact ((Below.refl _ _).alloc (Nat.le_refl _) _).alloc (by simp) _)
  have B0 : BlkV W w.heap.size 72 [.int .u32 sq, .int .u32 st] := (by rw [hW]; exact (BlkV.new w _ _).alloc _)
  have B1 : BlkV W (w.heap.size + 1) 62 [.int .i64 k, .slice A n c] := (by rw [hW]; exact BlkV.new_at (w.alloc (.cells #[.int .u32 sq, .int .u32 st] 72)) _ _ (by simp))
  have hq5 : (k == 5) = true := by rw [hk]; rfl
  have hr : Int.tmod (n : Int) 8 = 0 := by rw [Int.tmod_eq_emod_of_nonneg (by omega)]; omega
  have hn32 : (n : Int) ≤ 32 := by omega
  have OW := own_below hown hbW
  have HL := Lib.hid hl
  have HK := Lib.hid hK
  have hgap : Hid (∀ g, (Value.slice A n c).ownBlock = some g → g < w.heap.size) := Lib.hid fun g hg => (hown.lt g hg).2
  have c0 := (B1).cell (i := 0) rfl
  have c1 := (B1).cell (i := 1) rfl
  clear hk hl hK hn8
  go_enter Tryd.func34, Tryd.ntmps34
  go_upto_region 1 with (fail)
  rw [← hW]
  clear hW
  go_wp2_with fail
  go_loopg [5] K (fun gg s5 wx => ∃ (kk a : Nat), kk + gg = K ∧ a = 4 * kk ∧ s5 = .int .i64 a ∧ BlkV wx w.heap.size 72 [.int .u32 sq, .int .u32 st] ∧ BlkV wx (w.heap.size + 1) 62 [.int .i64 k, .slice A n c] ∧ Hid (wx.ownsRow base 5 1 (.slice A n c) n (bs (Prox.sh sq (l.take (4 * kk)) ++ l.drop (4 * kk)))) ∧ W.grownBy wx (Value.slice A n c).ownBlock)
  case atStart => exact ⟨0, 0, by omega, rfl, rfl, B0, B1, Lib.hid (by simpa [Prox.sh] using OW), grown_refl _ _⟩
  case round =>
    obtain ⟨kk, a, hkk, ha, rfl, B0x, B1x, OX, hgx⟩ := hrel
    cases gk with
    | zero =>
      have hk2 : kk = K := by omega
      have haz : ¬ (a : Int) < (n : Int) := by have := HK.out; omega
      have OF : Hid (wr.ownsRow base 5 1 (.slice A n c) n (bs (Prox.sh sq l))) := Lib.hid (by
        have h := OX.out
        have e : 4 * kk = l.length := by have := HK.out; have := HL.out; omega
        rw [e, List.take_length, List.drop_length, List.append_nil] at h
        exact h)
      clear ha hk2 OX
      go_wp2_with fail
      go_end0
      exact ⟨rfl, OF.out, grown_below hbW hgx⟩
    | succ g2 =>
      have haz : (a : Int) < (n : Int) := by have := HK.out; omega
      have han : (a : Int) ≤ (n : Int) := by omega
      have ha4 : a + 4 ≤ n := by have := HK.out; omega
      obtain ⟨g, hA, hg0, hg1, hg2, hg3⟩ := own_blk OX.out (by omega)
      subst hA
      have hgw : g < w.heap.size := hgap.out g rfl
      have hc63 : c ≤ 9223372036854775807 := by unfold maxLen at hg3; omega
      have hanc : (a : Int) ≤ (c : Int) := by omega
      have hgx : W.grownBy wr (some g) := hgx
      have HADD := Lib.hid (fun (w' : World) (h : w'.ownsRow base 5 1 (.slice (some ⟨g, 0, none⟩) n c) n (bs (Prox.sh sq (l.take (4 * kk)) ++ l.drop (4 * kk)))) => padd_spec g a n c _ sq base w' h (Prox.isB_app (Prox.sh_isB _ _ (Prox.isB_take hB _)) (Prox.isB_drop hB _)) ha4 (by omega) hg2 hs0 hs1)
      have KF : Hid (∀ w' : World, BlkV w' w.heap.size 72 [.int .u32 sq, .int .u32 st] → BlkV w' (w.heap.size + 1) 62 [.int .i64 k, .slice (some ⟨g, 0, none⟩) n c] → (w'.cell? ⟨w.heap.size + 1, 1, none⟩ = some (.slice (some ⟨g, 0, none⟩) n c) ∧ w'.cell? ⟨w.heap.size, 0, none⟩ = some (.int .u32 sq))) := Lib.hid fun w' h0 h1 => ⟨h1.cell rfl, h0.cell rfl⟩
      have HEQ : Hid ((Prox.sh sq (l.take (4 * kk)) ++ l.drop (4 * kk)).take a ++ Prox.sh1 sq ((Prox.sh sq (l.take (4 * kk)) ++ l.drop (4 * kk)).drop a) = Prox.sh sq (l.take (4 * (kk + 1))) ++ l.drop (4 * (kk + 1))) := Lib.hid (by
        have hll := HL.out
        have e : (Prox.sh sq (l.take (4 * kk))).length = a := by rw [Prox.sh_len, List.length_take]; omega
        rw [List.take_left' e, List.drop_left' e]
        exact Prox.sh_round sq l kk (by omega))
      have hca : ¬ c = a := by omega
      have HKK := Lib.hid hkk
      have HAA := Lib.hid ha
      clear ha hkk
      go_wp2_with fail
      refine wp_region_held_drew (S := fun w' => (w'.cell? ⟨w.heap.size + 1, 1, none⟩ = some (.slice (some ⟨g, 0, none⟩) n c) ∧ w'.cell? ⟨w.heap.size, 0, none⟩ = some (.int .u32 sq))) (by kernel_rfl) (KF.out _ B0x B1x) (fun hHeld => ?_)
      refine wpAnyH_takeD (i := 0) (some 27) (v := ?_) rfl rfl (by kernel_rfl) (by kernel_rfl) (by kernel_rfl) (fun _ _ _ h => h) (Or.inl ⟨by rfl, ?_⟩) (by assumption) ?_
      rotate_left
      · (intro w hSw; (try dsimp only at hSw); go_simp; try with_reducible rfl)
      try simp only [Act.put, List.setIfInBounds_toArray, List.set_cons_zero, List.set_cons_succ]
      refine wpAnyH_takeD (i := 1) (some 28) (v := ?_) rfl rfl (by kernel_rfl) (by kernel_rfl) (by kernel_rfl) (fun _ _ _ h => h) (Or.inl ⟨by rfl, ?_⟩) (by assumption) ?_
      rotate_left
      · (intro w hSw; (try dsimp only at hSw); go_simp; try with_reducible rfl)
      try simp only [Act.put, List.setIfInBounds_toArray, List.set_cons_zero, List.set_cons_succ]
      refine wpAnyH_takeD (i := 2) (some 29) (v := ?_) rfl rfl (by kernel_rfl) (by kernel_rfl) (by kernel_rfl) (fun _ _ _ h => h) (Or.inl ⟨by rfl, ?_⟩) (by assumption) ?_
      rotate_left
      · (intro w hSw; (try dsimp only at hSw); go_simp; try with_reducible rfl)
      try simp only [Act.put, List.setIfInBounds_toArray, List.set_cons_zero, List.set_cons_succ]
      refine wpAnyH_takeD (i := 3) (some 30) (v := ?_) rfl rfl (by kernel_rfl) (by kernel_rfl) (by kernel_rfl) (fun _ _ _ h => h) (Or.inl ⟨by rfl, ?_⟩) (by assumption) ?_
      rotate_left
      · (intro w hSw; (try dsimp only at hSw); go_simp; try with_reducible rfl)
      try simp only [Act.put, List.setIfInBounds_toArray, List.set_cons_zero, List.set_cons_succ]
      refine wpAnyH_takeD (i := 4) (some 31) (v := ?_) rfl rfl (by kernel_rfl) (by kernel_rfl) (by kernel_rfl) (fun _ _ _ h => h) (Or.inl ⟨by rfl, ?_⟩) (by assumption) ?_
      rotate_left
      · (intro w hSw; (try dsimp only at hSw); go_simp; try with_reducible rfl)
      try simp only [Act.put, List.setIfInBounds_toArray, List.set_cons_zero, List.set_cons_succ]
      refine wpAnyH_takeD (i := 5) (some 32) (v := ?_) rfl rfl (by kernel_rfl) (by kernel_rfl) (by kernel_rfl) (fun _ _ _ h => h) (Or.inl ⟨by rfl, ?_⟩) (by assumption) ?_
      rotate_left
      · (intro w hSw; (try dsimp only at hSw); go_simp; try with_reducible rfl)
      try simp only [Act.put, List.setIfInBounds_toArray, List.set_cons_zero, List.set_cons_succ]
      refine wpAnyH_takeD (i := 6) (some 33) (v := ?_) rfl rfl (by kernel_rfl) (by kernel_rfl) (by kernel_rfl) (fun _ _ _ h => h) (Or.inl ⟨by rfl, ?_⟩) (by assumption) ?_
      rotate_left
      · (intro w hSw; (try dsimp only at hSw); go_simp; try with_reducible rfl)
      try simp only [Act.put, List.setIfInBounds_toArray, List.set_cons_zero, List.set_cons_succ]
      refine wpAnyH_ready (rs := [7]) (by kernel_rfl) (by simp) ?_
      refine AllReadyH.cons (o := _) rfl (fun K hK => ?_) AllReadyH.nil
      go_simp
      refine (HADD.out wr.drew OX.out).mono ?_
      rintro e w5 ⟨rfl, o5, q5⟩
      have B0y := (show BlkV wr.drew _ _ _ from B0x).grown q5 (by omega)
      have B1y := (show BlkV wr.drew _ _ _ from B1x).grown q5 (by omega)
      rw [HEQ.out] at o5
      have OY := Lib.hid o5
      have hgy := grown_trans (grown_drewN hgx 1) q5
      clear o5 q5 B0x B1x hgx
      go_wp2_with fail
      refine hK.out _ _ (KF.out _ B0y B1y) (fun hHeld => ?_)
      clear hK K
      try simp only [Act.put, List.setIfInBounds_toArray, List.set_cons_zero, List.set_cons_succ]
      refine wpAnyH_done (by kernel_rfl) ?_ _
      clear hHeld KF HADD HEQ OX
      go_wp2_with fail
      go_roundg g2
      case measure => omega
      case rel => exact ⟨kk + 1, a + 4, by have := HKK.out; omega, by have := HAA.out; omega, by go_num, B0y, B1y, OY, hgy⟩
set_option maxHeartbeats 4000000 in
theorem pthere_stamp (k sq st : Int) (A : Option Addr) (n c : Nat) (l : List Int) (base : Nat) (w : World) (hown : w.ownsRow base 5 1 (.slice A n c) n (bs l)) (hB : isB l) (hs0 : 0 ≤ st) (hs1 : st ≤ 4294967295) (hk : k = 8) (hn : n = 8) :
    Calls Tryd.prog 34 #[.agg #[.int .u32 sq, .int .u32 st], .agg #[.int .i64 k, .slice A n c]] w (ThereR base A n c (l.take 4 ++ Prox.sh st (l.drop 4)) w) := by
  have hl : l.length = n := by have := hown.1; rw [bs_len] at this; omega
  obtain ⟨W, hW⟩ : ∃ W, W = (w.alloc (.cells #[.int .u32 sq, .int .u32 st] 72)).alloc (.cells #[.int .i64 k, .slice A n c] 62) := ⟨_, rfl⟩
  have hbW : Below w.heap.size w W := (by rw [hW]; exact ((Below.refl _ _).alloc (Nat.le_refl _) _).alloc (by simp) _)
  have B0 : BlkV W w.heap.size 72 [.int .u32 sq, .int .u32 st] := (by rw [hW]; exact (BlkV.new w _ _).alloc _)
  have B1 : BlkV W (w.heap.size + 1) 62 [.int .i64 k, .slice A n c] := (by rw [hW]; exact BlkV.new_at (w.alloc (.cells #[.int .u32 sq, .int .u32 st] 72)) _ _ (by simp))
  obtain ⟨g, hA, hg0, hg1, hg2, hg3⟩ := own_blk hown (by omega)
  subst hA
  subst hn
  have hq5 : (k == 5) = false := by rw [hk]; rfl
  have hq8 : (k == 8) = true := by rw [hk]; rfl
  have OW := own_below hown hbW
  have hgw : g < w.heap.size := hg1
  have hc63 : c ≤ 9223372036854775807 := by unfold maxLen at hg3; omega
  have hca : ¬ c = 4 := by omega
  have h4c : (4 : Int) ≤ (c : Int) := by omega
  have HADD := Lib.hid (padd_spec g 4 8 c l st base W.drew OW hB (by omega) (by omega) hg2 hs0 hs1)
  have HEQ : Hid (l.take 4 ++ Prox.sh1 st (l.drop 4) = l.take 4 ++ Prox.sh st (l.drop 4)) := Lib.hid (by
    rw [Prox.sh1_app st _ (by rw [List.length_drop]; omega)]
    have e : (l.drop 4).length = 4 := by rw [List.length_drop]; omega
    have e1 : (l.drop 4).take 4 = l.drop 4 := List.take_of_length_le (by omega)
    have e2 : (l.drop 4).drop 4 = [] := List.drop_eq_nil_of_le (by omega)
    rw [e1, e2, List.append_nil])
  have KF : Hid (∀ w' : World, BlkV w' w.heap.size 72 [.int .u32 sq, .int .u32 st] → BlkV w' (w.heap.size + 1) 62 [.int .i64 k, .slice (some ⟨g, 0, none⟩) 8 c] → (w'.cell? ⟨w.heap.size + 1, 1, none⟩ = some (.slice (some ⟨g, 0, none⟩) 8 c) ∧ w'.cell? ⟨w.heap.size, 1, none⟩ = some (.int .u32 st))) := Lib.hid fun w' h0 h1 => ⟨h1.cell rfl, h0.cell rfl⟩
  have c0 := (B1).cell (i := 0) rfl
  have c1 := (B1).cell (i := 1) rfl
  clear hk hl hown
  go_enter Tryd.func34, Tryd.ntmps34
  go_upto_region 1 with (fail)
  rw [← hW]
  clear hW
  go_wp2_with fail
  refine wp_region_held_drew (S := fun w' => (w'.cell? ⟨w.heap.size + 1, 1, none⟩ = some (.slice (some ⟨g, 0, none⟩) 8 c) ∧ w'.cell? ⟨w.heap.size, 1, none⟩ = some (.int .u32 st))) (by kernel_rfl) (KF.out _ B0 B1) (fun hHeld => ?_)
  refine wpAnyH_takeD (i := 0) (some 43) (v := ?_) rfl rfl (by kernel_rfl) (by kernel_rfl) (by kernel_rfl) (fun _ _ _ h => h) (Or.inl ⟨by rfl, ?_⟩) (by assumption) ?_
  rotate_left
  · (intro w hSw; (try dsimp only at hSw); go_simp; try with_reducible rfl)
  try simp only [Act.put, List.setIfInBounds_toArray, List.set_cons_zero, List.set_cons_succ]
  refine wpAnyH_takeD (i := 1) (some 44) (v := ?_) rfl rfl (by kernel_rfl) (by kernel_rfl) (by kernel_rfl) (fun _ _ _ h => h) (Or.inl ⟨by rfl, ?_⟩) (by assumption) ?_
  rotate_left
  · (intro w hSw; (try dsimp only at hSw); go_simp; try with_reducible rfl)
  try simp only [Act.put, List.setIfInBounds_toArray, List.set_cons_zero, List.set_cons_succ]
  refine wpAnyH_takeD (i := 2) (some 45) (v := ?_) rfl rfl (by kernel_rfl) (by kernel_rfl) (by kernel_rfl) (fun _ _ _ h => h) (Or.inl ⟨by rfl, ?_⟩) (by assumption) ?_
  rotate_left
  · (intro w hSw; (try dsimp only at hSw); go_simp; try with_reducible rfl)
  try simp only [Act.put, List.setIfInBounds_toArray, List.set_cons_zero, List.set_cons_succ]
  refine wpAnyH_takeD (i := 3) (some 46) (v := ?_) rfl rfl (by kernel_rfl) (by kernel_rfl) (by kernel_rfl) (fun _ _ _ h => h) (Or.inl ⟨by rfl, ?_⟩) (by assumption) ?_
  rotate_left
  · (intro w hSw; (try dsimp only at hSw); go_simp; try with_reducible rfl)
  try simp only [Act.put, List.setIfInBounds_toArray, List.set_cons_zero, List.set_cons_succ]
  refine wpAnyH_takeD (i := 4) (some 47) (v := ?_) rfl rfl (by kernel_rfl) (by kernel_rfl) (by kernel_rfl) (fun _ _ _ h => h) (Or.inl ⟨by rfl, ?_⟩) (by assumption) ?_
  rotate_left
  · (intro w hSw; (try dsimp only at hSw); go_simp; try with_reducible rfl)
  try simp only [Act.put, List.setIfInBounds_toArray, List.set_cons_zero, List.set_cons_succ]
  refine wpAnyH_takeD (i := 5) (some 48) (v := ?_) rfl rfl (by kernel_rfl) (by kernel_rfl) (by kernel_rfl) (fun _ _ _ h => h) (Or.inl ⟨by rfl, ?_⟩) (by assumption) ?_
  rotate_left
  · (intro w hSw; (try dsimp only at hSw); go_simp; try with_reducible rfl)
  try simp only [Act.put, List.setIfInBounds_toArray, List.set_cons_zero, List.set_cons_succ]
  refine wpAnyH_ready (rs := [6]) (by kernel_rfl) (by simp) ?_
  refine AllReadyH.cons (o := _) rfl (fun K hK => ?_) AllReadyH.nil
  go_simp
  refine HADD.out.mono ?_
  rintro e w5 ⟨rfl, o5, q5⟩
  have B0y := (show BlkV W.drew _ _ _ from B0).grown q5 (by omega)
  have B1y := (show BlkV W.drew _ _ _ from B1).grown q5 (by omega)
  rw [HEQ.out] at o5
  have OY := Lib.hid o5
  have hgy := grown_trans (grown_drewN (below_grown hbW (some g)) 1) q5
  clear o5 q5 B0 B1 c0 c1
  go_wp2_with fail
  refine hK.out _ _ (KF.out _ B0y B1y) (fun hHeld => ?_)
  clear hK K
  try simp only [Act.put, List.setIfInBounds_toArray, List.set_cons_zero, List.set_cons_succ]
  refine wpAnyH_done (by kernel_rfl) ?_ _
  clear hHeld KF HADD HEQ
  go_wp2_with fail
  go_end0
  exact ⟨rfl, OY.out, hgy⟩
set_option maxHeartbeats 4000000 in
theorem pthere_none (k sq st : Int) (A : Option Addr) (n c : Nat) (l : List Int) (base : Nat) (w : World) (hown : w.ownsRow base 5 1 (.slice A n c) n (bs l)) (h5 : ¬ (k = 5 ∧ n % 8 = 0 ∧ n ≤ 32)) (h8 : ¬ (k = 8 ∧ n = 8)) (hn : n ≤ 9223372036854775807) :
    Calls Tryd.prog 34 #[.agg #[.int .u32 sq, .int .u32 st], .agg #[.int .i64 k, .slice A n c]] w (ThereR base A n c l w) := by
  obtain ⟨W, hW⟩ : ∃ W, W = (w.alloc (.cells #[.int .u32 sq, .int .u32 st] 72)).alloc (.cells #[.int .i64 k, .slice A n c] 62) := ⟨_, rfl⟩
  have hbW : Below w.heap.size w W := (by rw [hW]; exact ((Below.refl _ _).alloc (Nat.le_refl _) _).alloc (by simp) _)
  have B0 : BlkV W w.heap.size 72 [.int .u32 sq, .int .u32 st] := (by rw [hW]; exact (BlkV.new w _ _).alloc _)
  have B1 : BlkV W (w.heap.size + 1) 62 [.int .i64 k, .slice A n c] := (by rw [hW]; exact BlkV.new_at (w.alloc (.cells #[.int .u32 sq, .int .u32 st] 72)) _ _ (by simp))
  have OW := Lib.hid (own_below hown hbW)
  have c0 := (B1).cell (i := 0) rfl
  have c1 := (B1).cell (i := 1) rfl
  obtain ⟨r, hr⟩ : ∃ r : Int, Int.tmod (n : Int) 8 = r := ⟨_, rfl⟩
  have HR : Hid (r = ((n % 8 : Nat) : Int)) := Lib.hid (by rw [← hr, Int.tmod_eq_emod_of_nonneg (by omega)]; omega)
  clear hown B0 B1
  rcases (show (k ≠ 5 ∧ k ≠ 8) ∨ (k ≠ 5 ∧ k = 8 ∧ n ≠ 8) ∨ (k = 5 ∧ n % 8 ≠ 0) ∨ (k = 5 ∧ n % 8 = 0 ∧ ¬ n ≤ 32) by omega) with ⟨g1, g2⟩ | ⟨g1, g2, g3⟩ | ⟨g1, g2⟩ | ⟨g1, g2, g3⟩
  case' inl =>
    have q1 : (k == 5) = false := by simp [g1]
    have q2 : (k == 8) = false := by simp [g2]
  case' inr.inl =>
    have q1 : (k == 5) = false := by simp [g1]
    have q2 : (k == 8) = true := by rw [g2]; rfl
    have q3 : ((n : Int) == 8) = false := by simp; omega
  case' inr.inr.inl =>
    have q1 : (k == 5) = true := by rw [g1]; rfl
    have q2 : (k == 8) = false := by rw [g1]; rfl
    have q3 : (r == 0) = false := by rw [HR.out]; simp; omega
  case' inr.inr.inr =>
    have q1 : (k == 5) = true := by rw [g1]; rfl
    have q2 : (k == 8) = false := by rw [g1]; rfl
    have q3 : (r == 0) = true := by rw [HR.out, g2]; rfl
    have q4 : ¬ (n : Int) ≤ 32 := by omega
  all_goals
    clear g1 g2
    go_enter Tryd.func34, Tryd.ntmps34
    go_upto_region 1 with (fail)
    rw [← hW]
    clear hW
    go_wp2_with fail
    go_end0
    exact ⟨rfl, OW.out, below_grown hbW _⟩
theorem pthere_spec (k sq st : Int) (A : Option Addr) (n c : Nat) (l : List Int) (base : Nat) (w : World) (hown : w.ownsRow base 5 1 (.slice A n c) n (bs l)) (hB : isB l) (hs0 : 0 ≤ sq) (hs1 : sq ≤ 4294967295) (ht0 : 0 ≤ st) (ht1 : st ≤ 4294967295) (hn : n ≤ 9223372036854775807) :
    Calls Tryd.prog 34 #[.agg #[.int .u32 sq, .int .u32 st], .agg #[.int .i64 k, .slice A n c]] w (ThereR base A n c (Prox.there sq st (k, l)).2 w) := by
  have hl : l.length = n := by have := hown.1; rw [bs_len] at this; omega
  unfold Prox.there
  simp only
  rw [hl]
  by_cases h5 : k = 5 ∧ n % 8 = 0 ∧ n ≤ 32
  · rw [if_pos h5]
    exact pthere_sack k sq st A n c l base w hown hB hs0 hs1 h5.1 h5.2.1 h5.2.2
  · rw [if_neg h5]
    by_cases h8 : k = 8 ∧ n = 8
    · rw [if_pos h8]
      exact pthere_stamp k sq st A n c l base w hown hB ht0 ht1 h8.1 h8.2
    · rw [if_neg h8]
      exact pthere_none k sq st A n c l base w hown h5 h8 hn
end Go.Proofs.YtpidpbjbgjkaaaaDoor
namespace Go.Proofs.YtpidpbjbgjkaaaaDoor
open Go.RowKit
set_option maxRecDepth 8000
set_option linter.unusedVariables false
set_option linter.unusedSimpArgs false
set_option maxHeartbeats 4000000 in
theorem pback_stamp (k sq st : Int) (A : Option Addr) (n c : Nat) (l : List Int) (base : Nat) (w : World) (hown : w.ownsRow base 5 1 (.slice A n c) n (bs l)) (hB : isB l) (hs0 : 0 ≤ st) (hs1 : st ≤ 4294967295) (hk : k = 8) (hn : n = 8) :
    Calls Tryd.prog 36 #[.agg #[.int .u32 sq, .int .u32 st], .agg #[.int .i64 k, .slice A n c]] w (ThereR base A n c (Prox.sh ((-st) % 4294967296) (l.take 4) ++ l.drop 4) w) := by
  have hl : l.length = n := by have := hown.1; rw [bs_len] at this; omega
  obtain ⟨W, hW⟩ : ∃ W, W = (w.alloc (.cells #[.int .u32 sq, .int .u32 st] 72)).alloc (.cells #[.int .i64 k, .slice A n c] 62) := ⟨_, rfl⟩
  have hbW : Below w.heap.size w W := (by rw [hW]; exact ((Below.refl _ _).alloc (Nat.le_refl _) _).alloc (by simp) _)
  have B0 : BlkV W w.heap.size 72 [.int .u32 sq, .int .u32 st] := (by rw [hW]; exact (BlkV.new w _ _).alloc _)
  have B1 : BlkV W (w.heap.size + 1) 62 [.int .i64 k, .slice A n c] := (by rw [hW]; exact BlkV.new_at (w.alloc (.cells #[.int .u32 sq, .int .u32 st] 72)) _ _ (by simp))
  obtain ⟨g, hA, hg0, hg1, hg2, hg3⟩ := own_blk hown (by omega)
  subst hA
  subst hn
  have hq8 : (k == 8) = true := by rw [hk]; rfl
  have OW := own_below hown hbW
  obtain ⟨m, hm⟩ : ∃ m, (-st) % 4294967296 = m := ⟨_, rfl⟩
  have hm' : IntKind.u32.wrap (-st) = m := by rw [IntKind.wrap_u32]; exact hm
  have HADD : Hid (Calls Tryd.prog 50 #[.slice (some ⟨g, 0, none⟩) 8 c, .int .u32 m] W fun e w' => e = .returned (.tuple #[]) ∧ w'.ownsRow base 5 1 (.slice (some ⟨g, 0, none⟩) 8 c) 8 (bs (Prox.sh m (l.take 4) ++ l.drop 4)) ∧ W.grownBy w' (some g)) := Lib.hid (by
    have h := padd_spec g 0 8 c l m base W OW hB (by omega) (by omega) hg2 (by omega) (by omega)
    rw [List.take_zero, List.drop_zero, List.nil_append, Prox.sh1_app m l (by omega)] at h
    exact h)
  have c0 := (B1).cell (i := 0) rfl
  have c1 := (B1).cell (i := 1) rfl
  have d1 := (B0).cell (i := 1) rfl
  rw [hm]
  clear hk hl hown
  go_enter Tryd.func36, Tryd.ntmps36
  go_upto_region 1 with (fail)
  rw [← hW]
  clear hW
  go_wp2_with fail
  refine HADD.out.mono ?_
  rintro e w5 ⟨rfl, o5, q5⟩
  have OY := Lib.hid o5
  have hgy := grown_trans (below_grown hbW (some g)) q5
  clear o5 q5 HADD c0 c1 d1 B0 B1
  go_wp2_with fail
  go_end0
  exact ⟨rfl, OY.out, hgy⟩
set_option maxHeartbeats 4000000 in
theorem pback_none (k sq st : Int) (A : Option Addr) (n c : Nat) (l : List Int) (base : Nat) (w : World) (hown : w.ownsRow base 5 1 (.slice A n c) n (bs l)) (h8 : ¬ (k = 8 ∧ n = 8)) :
    Calls Tryd.prog 36 #[.agg #[.int .u32 sq, .int .u32 st], .agg #[.int .i64 k, .slice A n c]] w (ThereR base A n c l w) := by
  obtain ⟨W, hW⟩ : ∃ W, W = (w.alloc (.cells #[.int .u32 sq, .int .u32 st] 72)).alloc (.cells #[.int .i64 k, .slice A n c] 62) := ⟨_, rfl⟩
  have hbW : Below w.heap.size w W := (by rw [hW]; exact ((Below.refl _ _).alloc (Nat.le_refl _) _).alloc (by simp) _)
  have B0 : BlkV W w.heap.size 72 [.int .u32 sq, .int .u32 st] := (by rw [hW]; exact (BlkV.new w _ _).alloc _)
  have B1 : BlkV W (w.heap.size + 1) 62 [.int .i64 k, .slice A n c] := (by rw [hW]; exact BlkV.new_at (w.alloc (.cells #[.int .u32 sq, .int .u32 st] 72)) _ _ (by simp))
  have OW := Lib.hid (own_below hown hbW)
  have c0 := (B1).cell (i := 0) rfl
  have c1 := (B1).cell (i := 1) rfl
  clear hown B0 B1
  rcases (show (k ≠ 8) ∨ (k = 8 ∧ n ≠ 8) by omega) with g1 | ⟨g1, g2⟩
  case' inl => have q1 : (k == 8) = false := by simp [g1]
  case' inr =>
    have q1 : (k == 8) = true := by rw [g1]; rfl
    have q3 : ((n : Int) == 8) = false := by simp; omega
  all_goals
    clear g1
    go_enter Tryd.func36, Tryd.ntmps36
    go_upto_region 1 with (fail)
    rw [← hW]
    clear hW
    go_wp2_with fail
    go_end0
    exact ⟨rfl, OW.out, below_grown hbW _⟩
theorem pback_spec (k sq st : Int) (A : Option Addr) (n c : Nat) (l : List Int) (base : Nat) (w : World) (hown : w.ownsRow base 5 1 (.slice A n c) n (bs l)) (hB : isB l) (ht0 : 0 ≤ st) (ht1 : st ≤ 4294967295) :
    Calls Tryd.prog 36 #[.agg #[.int .u32 sq, .int .u32 st], .agg #[.int .i64 k, .slice A n c]] w (ThereR base A n c (Prox.back ((-st) % 4294967296) (k, l)).2 w) := by
  have hl : l.length = n := by have := hown.1; rw [bs_len] at this; omega
  unfold Prox.back
  simp only
  rw [hl]
  by_cases h8 : k = 8 ∧ n = 8
  · rw [if_pos h8]
    exact pback_stamp k sq st A n c l base w hown hB ht0 ht1 h8.1 h8.2
  · rw [if_neg h8]
    exact pback_none k sq st A n c l base w hown h8
end Go.Proofs.YtpidpbjbgjkaaaaDoor
