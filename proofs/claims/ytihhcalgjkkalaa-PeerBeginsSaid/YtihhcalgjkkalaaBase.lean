/- Words for memory that all my walks use: a slice that reads as a list of cells; results as equations of numbers. No program in sight. -/
import Derived.WalkKit
import Derived.WalkSpells
import Derived.WalkLawsBesides
import Derived.OpenShut
import Derived.Lib.Hide
namespace Go.Proofs.Ytihhcalgjkkalaa
open Go.RowKit
theorem ret_int {k : IntKind} {a b : Int} (h : a = b) : Ending.returned (.int k a) = .returned (.int k b) := by rw [h]
theorem ret_bool {a b : Bool} (h : a = b) : Ending.returned (.bool a) = .returned (.bool b) := by rw [h]
theorem val_int {k : IntKind} {a b : Int} (h : a = b) : Value.int k a = .int k b := by rw [h]

/-! ### bits, whatever the number -/
theorem bits_low (k : IntKind) (j : Nat) (m : Int) (hm : m = 2 ^ j - 1) (hk : k.signed = false) (hj : j ≤ k.bits) (a : Int) : bits .and k a m = a % 2 ^ j := by
  have e1 : (BitVec.ofInt k.bits m).toNat = 2 ^ j - 1 := by
    rw [BitVec.toNat_ofInt, hm]
    have h1 : (2 : Int) ^ j ≤ 2 ^ k.bits := by exact_mod_cast Nat.pow_le_pow_right (by omega) hj
    have h0 : (1 : Int) ≤ 2 ^ j := by exact_mod_cast Nat.one_le_two_pow
    rw [Int.emod_eq_of_lt (by omega) (by push_cast; omega)]
    have : ((2 ^ j - 1 : Nat) : Int) = 2 ^ j - 1 := by rw [Int.natCast_sub Nat.one_le_two_pow]; push_cast; rfl
    omega
  have e2 : (BitVec.ofInt k.bits a &&& BitVec.ofInt k.bits m).toNat = (a % 2 ^ j).toNat := by
    rw [BitVec.toNat_and, e1, Nat.and_two_pow_sub_one_eq_mod, BitVec.toNat_ofInt]
    have hd : (2 : Int) ^ j ∣ ((2 ^ k.bits : Nat) : Int) := by exact_mod_cast Int.natCast_dvd_natCast.2 (Nat.pow_dvd_pow 2 hj)
    have h0 : (0 : Int) < ((2 ^ k.bits : Nat) : Int) := by exact_mod_cast Nat.two_pow_pos _
    have h2 : 0 ≤ a % ((2 ^ k.bits : Nat) : Int) := Int.emod_nonneg _ (by omega)
    have h3 : a % ((2 ^ k.bits : Nat) : Int) % 2 ^ j = a % 2 ^ j := Int.emod_emod_of_dvd _ hd
    rw [← h3]
    obtain ⟨q, hq⟩ := Int.eq_ofNat_of_zero_le h2
    rw [hq, Int.toNat_natCast]
    have : (q : Int) % 2 ^ j = ((q % 2 ^ j : Nat) : Int) := by push_cast; rfl
    rw [this, Int.toNat_natCast]
  have hp : (0 : Int) < 2 ^ j := by exact_mod_cast Nat.two_pow_pos _
  have h4 := Int.emod_nonneg a (b := 2 ^ j) (by omega)
  have h5 := Int.emod_lt_of_pos a hp
  have h6 : (2 : Int) ^ j ≤ 2 ^ k.bits := by exact_mod_cast Nat.pow_le_pow_right (by omega) hj
  show k.wrap ((BitVec.ofInt k.bits a &&& BitVec.ofInt k.bits m).toNat : Int) = _
  rw [e2, Int.toNat_of_nonneg h4]
  unfold IntKind.wrap
  simp only [hk, Bool.false_and, Bool.false_eq_true, if_false]
  exact Int.emod_eq_of_lt h4 (by omega)
theorem bits_not (k : IntKind) (hk : k.signed = false) (a : Int) : bits .xor k k.max a = 2 ^ k.bits - 1 - a % 2 ^ k.bits := by
  have hp : (0 : Int) < 2 ^ k.bits := by exact_mod_cast Nat.two_pow_pos _
  have e1 : BitVec.ofInt k.bits k.max = BitVec.allOnes k.bits := by
    apply BitVec.eq_of_toNat_eq
    rw [BitVec.toNat_ofInt, BitVec.toNat_allOnes]
    unfold IntKind.max
    simp only [hk, Bool.false_eq_true, if_false]
    rw [Int.emod_eq_of_lt (by omega) (by push_cast; omega)]
    have : ((2 ^ k.bits - 1 : Nat) : Int) = 2 ^ k.bits - 1 := by rw [Int.natCast_sub Nat.one_le_two_pow]; push_cast; rfl
    omega
  show k.wrap ((BitVec.ofInt k.bits k.max ^^^ BitVec.ofInt k.bits a).toNat : Int) = _
  have e2 : ((BitVec.ofInt k.bits k.max ^^^ BitVec.ofInt k.bits a).toNat : Int) = 2 ^ k.bits - 1 - a % 2 ^ k.bits := by
    rw [e1, BitVec.allOnes_xor, BitVec.toNat_not, BitVec.toNat_ofInt]
    have h4 := Int.emod_nonneg a (b := 2 ^ k.bits) (by omega)
    have h5 := Int.emod_lt_of_pos a hp
    push_cast
    have : ((2 ^ k.bits - 1 - (a % 2 ^ k.bits).toNat : Nat) : Int) = 2 ^ k.bits - 1 - a % 2 ^ k.bits := by
      have h6 : ((2 ^ k.bits : Nat) : Int) = 2 ^ k.bits := by push_cast; rfl
      omega
    exact this
  rw [e2]
  have h4 := Int.emod_nonneg a (b := 2 ^ k.bits) (by omega)
  have h5 := Int.emod_lt_of_pos a hp
  unfold IntKind.wrap
  simp only [hk, Bool.false_and, Bool.false_eq_true, if_false]
  exact Int.emod_eq_of_lt (by omega) (by omega)
theorem u64_low16 (m : Int) : bits .and .u64 m 65535 = m % 65536 := bits_low .u64 16 _ rfl rfl (by decide) m
theorem u32_low16 (m : Int) : bits .and .u32 m 65535 = m % 65536 := bits_low .u32 16 _ rfl rfl (by decide) m
theorem u8_not (m : Int) : bits .xor .u8 IntKind.u8.max m = 255 - m % 256 := bits_not .u8 rfl m
theorem u16_not (m : Int) : bits .xor .u16 IntKind.u16.max m = 65535 - m % 65536 := bits_not .u16 rfl m
theorem u32_not (m : Int) : bits .xor .u32 IntKind.u32.max m = 4294967295 - m % 4294967296 := bits_not .u32 rfl m
theorem u8_signed : IntKind.u8.signed = false := rfl
theorem u16_signed : IntKind.u16.signed = false := rfl
theorem u32_signed : IntKind.u32.signed = false := rfl
theorem u64_of_u16 (n : Int) : IntKind.u64.wrap (IntKind.u16.wrap n) = n % 65536 := by rw [IntKind.wrap_u16, IntKind.wrap_u64]; omega

/-- The slice value '.slice A n c' holds the cells xs (s cells an element). -/
def Rd (w : World) (s : Nat) (A : Option Addr) (n : Nat) (xs : List Value) : Prop :=
  xs.length = n * s ∧ (0 < n → ∃ b off, A = some ⟨b, off, none⟩ ∧ b < w.heap.size ∧ ∀ j u, xs[j]? = some u → w.cell? ⟨b, off + j, none⟩ = some u)
/-- The cells of bytes. -/
def bs (l : List Int) : List Value := l.map (Value.int .u8)
def isB (l : List Int) : Prop := ∀ x ∈ l, 0 ≤ x ∧ x ≤ 255
theorem bs_len (l : List Int) : (bs l).length = l.length := by simp [bs]
theorem bs_get (l : List Int) (k : Nat) (h : k < l.length) : (bs l)[k]? = some (.int .u8 l[k]) := by simp [bs, h]

section
variable {w w' : World} {s : Nat} {A : Option Addr} {n : Nat} {xs : List Value}
theorem Rd.nil_ (A : Option Addr) : Rd w s A 0 [] := ⟨by simp, fun h => absurd h (by omega)⟩
theorem Rd.keep (h : Rd w s A n xs) (hs : w.heap.size ≤ w'.heap.size) (hk : ∀ p : Addr, p.block < w.heap.size → w'.cell? p = w.cell? p) : Rd w' s A n xs :=
  ⟨h.1, fun hn => by
    obtain ⟨b, off, e, hb, hc⟩ := h.2 hn
    exact ⟨b, off, e, by omega, fun j u hu => (hk _ hb).trans (hc j u hu)⟩⟩
theorem Rd.below (h : Rd w s A n xs) (hb : Below w.heap.size w w') : Rd w' s A n xs := h.keep hb.size fun _ hp => hb.cell hp
theorem Rd.drew (h : Rd w s A n xs) : Rd w.drew s A n xs := h
theorem Rd.drewN (h : Rd w s A n xs) (k : Nat) : Rd (w.drewN k) s A n xs := h
theorem Rd.alloc (h : Rd w s A n xs) (o : Obj) : Rd (w.alloc o) s A n xs := h.below ((Below.refl _ _).alloc (Nat.le_refl _) o)
end
theorem Rd.byte {w : World} {A : Option Addr} {n : Nat} {l : List Int} (h : Rd w 1 A n (bs l)) {k : Nat} (hk : k < n) :
    ∃ b off, A = some ⟨b, off, none⟩ ∧ b < w.heap.size ∧ w.cell? ⟨b, off + k, none⟩ = some (.int .u8 (l.getD k 0)) := by
  obtain ⟨b, off, e, hb, hc⟩ := h.2 (by omega)
  have hl : k < l.length := by have := h.1; rw [bs_len] at this; omega
  refine ⟨b, off, e, hb, ?_⟩
  have := hc k _ (bs_get l k hl)
  rw [this]; simp [hl]
theorem Rd.blen {w : World} {A : Option Addr} {n : Nat} {l : List Int} (h : Rd w 1 A n (bs l)) : l.length = n := by
  have := h.1; rw [bs_len] at this; omega
theorem isB.getD {l : List Int} (h : isB l) (k : Nat) : 0 ≤ l.getD k 0 ∧ l.getD k 0 ≤ 255 := by
  by_cases hk : k < l.length
  · have := h l[k] (List.getElem_mem hk)
    simpa [hk] using this
  · simp [hk]
/-- What a call leaves that answers a slice in new memory: it owns the cells xs; of what was there nothing has turned. -/
def RetS (w : World) (e : TypeId) (xs : List Value) (en : Ending) (w' : World) : Prop :=
  ∃ A c, en = .returned (.slice A xs.length c) ∧ w'.ownsRow w.heap.size e 1 (.slice A xs.length c) xs.length xs ∧ Below w.heap.size w w'
theorem own_form {w : World} {base : Nat} {e : TypeId} {s n : Nat} {v : Value} {xs : List Value} (h : w.ownsRow base e s v n xs) : ∃ A c, v = .slice A n c := by
  rcases h.2 with ⟨rfl, rfl⟩ | ⟨g, cap, cur, rfl, _⟩
  · exact ⟨_, _, rfl⟩
  · exact ⟨_, _, rfl⟩
theorem Rd.of_own {w : World} {base : Nat} {e : TypeId} {s n c : Nat} {A : Option Addr} {xs : List Value} (h : w.ownsRow base e s (.slice A n c) n xs) : Rd w s A n xs := by
  refine ⟨h.1, fun hn => ?_⟩
  rcases h.2 with ⟨hv, h0⟩ | ⟨g, cap, cur, hv, hb, hg, r⟩
  · omega
  · have hA : A = some ⟨g, 0, none⟩ := by injection hv
    subst hA
    refine ⟨g, 0, rfl, (Array.getElem?_eq_some_iff.1 hg).1, fun j u hu => ?_⟩
    have := h.cells (g := g) rfl j u hu
    rw [Addr.add] at this
    split at this
    · rename_i hj; subst hj; simpa using this
    · simpa using this
theorem Rd.int {w : World} {A : Option Addr} {n : Nat} {kd : IntKind} {l : List Int} (h : Rd w 1 A n (l.map (.int kd))) {k : Nat} (hk : k < l.length) :
    ∃ b off x, A = some ⟨b, off, none⟩ ∧ b < w.heap.size ∧ w.cell? ⟨b, off + k, none⟩ = some (.int kd x) ∧ Hid (l[k]? = some x) ∧ x ∈ l := by
  have hn := h.1
  simp only [List.length_map, Nat.mul_one] at hn
  obtain ⟨b, off, e, hb, hc⟩ := h.2 (by omega)
  refine ⟨b, off, l[k], e, hb, hc k _ ?_, List.getElem?_eq_getElem hk, List.getElem_mem hk⟩
  simp [hk]
theorem bd_get {l : List Int} {a b : Int} (h : ∀ x ∈ l, a ≤ x ∧ x ≤ b) (ha : a ≤ 0) (hb : 0 ≤ b) (k : Nat) : a ≤ l[k]?.getD 0 ∧ l[k]?.getD 0 ≤ b := by
  by_cases hk : k < l.length
  · have := h l[k] (List.getElem_mem hk)
    simpa [hk] using this
  · simp [hk, ha, hb]
theorem Rd.take {w : World} {A : Option Addr} {n : Nat} {xs : List Value} (h : Rd w 1 A n xs) {m : Nat} (hm : m ≤ n) : Rd w 1 A m (xs.take m) := by
  refine ⟨by have := h.1; simp; omega, fun h0 => ?_⟩
  obtain ⟨b, off, e, hb, hc⟩ := h.2 (by omega)
  refine ⟨b, off, e, hb, fun j u hu => hc j u ?_⟩
  rw [List.getElem?_take] at hu
  split at hu
  · exact hu
  · cases hu
theorem Rd.btake {w : World} {A : Option Addr} {n : Nat} {l : List Int} (h : Rd w 1 A n (bs l)) {m : Nat} (hm : m ≤ n) : Rd w 1 A m (bs (l.take m)) := by
  have := h.take hm
  rwa [bs, ← List.map_take] at this
theorem isB.take {l : List Int} (h : isB l) (m : Nat) : isB (l.take m) := fun x hx => h x (List.mem_of_mem_take hx)
theorem min_named (n b : Nat) : ∃ m : Nat, (if (b : Int) < (n : Int) then (b : Int) else (n : Int)) = (m : Int) ∧ m ≤ n ∧ m ≤ b ∧ Hid (m = min n b) := by
  refine ⟨min n b, ?_, Nat.min_le_left _ _, Nat.min_le_right _ _, rfl⟩
  split <;> omega
end Go.Proofs.Ytihhcalgjkkalaa
