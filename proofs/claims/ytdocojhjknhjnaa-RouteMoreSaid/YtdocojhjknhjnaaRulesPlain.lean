/- Rules and nets: what packages route and rules compute, over numbers. No program in sight. -/
import Derived.Test.YtdocojhjknhjnaaBase
namespace Go.Proofs.Ytdocojhjknhjnaa
open Go.RowKit
set_option linter.unusedVariables false
theorem nat_net (a n k : Nat) (hk : k ≤ 32) (ha : a < 2 ^ 32) (hn : n < 2 ^ 32) : ((a ^^^ n) &&& ((2 ^ (32 - k) - 1) <<< k) = 0) ↔ a / 2 ^ k = n / 2 ^ k := by
  constructor
  · intro h
    apply Nat.eq_of_testBit_eq
    intro i
    rw [Nat.testBit_div_two_pow, Nat.testBit_div_two_pow]
    have h1 := congrArg (fun x => x.testBit (k + i)) h
    simp only [Nat.testBit_and, Nat.testBit_xor, Nat.testBit_shiftLeft, Nat.testBit_two_pow_sub_one, Nat.zero_testBit] at h1
    by_cases hi : i < 32 - k
    · have e1 : decide (k + i ≥ k) = true := by simp
      have e2 : decide (k + i - k < 32 - k) = true := by rw [decide_eq_true_eq]; omega
      rw [e1, e2] at h1
      simp only [Bool.and_true] at h1
      have h2 : a.testBit (k + i) = n.testBit (k + i) := by
        cases h3 : a.testBit (k + i) <;> cases h4 : n.testBit (k + i) <;> simp_all
      rw [Nat.add_comm i k]; exact h2
    · have h2 : ∀ x, x < 2 ^ 32 → x.testBit (i + k) = false := fun x hx => Nat.testBit_lt_two_pow (Nat.lt_of_lt_of_le hx (Nat.pow_le_pow_right (by decide) (by omega)))
      rw [h2 a ha, h2 n hn]
  · intro h
    apply Nat.eq_of_testBit_eq
    intro i
    simp only [Nat.testBit_and, Nat.testBit_xor, Nat.testBit_shiftLeft, Nat.testBit_two_pow_sub_one, Nat.zero_testBit]
    by_cases hi : k ≤ i
    · have h1 := congrArg (fun x => x.testBit (i - k)) h
      simp only [Nat.testBit_div_two_pow] at h1
      rw [show i - k + k = i by omega] at h1
      rw [h1]; simp
    · have : decide (i ≥ k) = false := by simp; omega
      rw [this]; simp
theorem nat_mask (k : Nat) (hk : k ≤ 32) : (4294967295 * 2 ^ k) % 4294967296 = (2 ^ (32 - k) - 1) <<< k := by
  rw [Nat.shiftLeft_eq]
  have : k = 0 ∨ k = 1 ∨ k = 2 ∨ k = 3 ∨ k = 4 ∨ k = 5 ∨ k = 6 ∨ k = 7 ∨ k = 8 ∨ k = 9 ∨ k = 10 ∨ k = 11 ∨ k = 12 ∨ k = 13 ∨ k = 14 ∨ k = 15 ∨ k = 16 ∨ k = 17 ∨ k = 18 ∨ k = 19 ∨ k = 20 ∨ k = 21 ∨ k = 22 ∨ k = 23 ∨ k = 24 ∨ k = 25 ∨ k = 26 ∨ k = 27 ∨ k = 28 ∨ k = 29 ∨ k = 30 ∨ k = 31 ∨ k = 32 := by omega
  rcases this with rfl | rfl | rfl | rfl | rfl | rfl | rfl | rfl | rfl | rfl | rfl | rfl | rfl | rfl | rfl | rfl | rfl | rfl | rfl | rfl | rfl | rfl | rfl | rfl | rfl | rfl | rfl | rfl | rfl | rfl | rfl | rfl | rfl <;> rfl
namespace Net
/-- is an address in a net of so many bits? -/
def inB (a n b : Int) : Bool := decide (0 ≤ b) && (decide (b ≤ 32) && decide (a / 2 ^ (32 - b.toNat) = n / 2 ^ (32 - b.toNat)))
def mask (b : Int) : Int := (4294967295 * 2 ^ (32 - b.toNat)) % 4294967296
end Net
namespace Rules
structure Rule where
  fr : Int
  to : Int
  proto : Int
  src : Int
  dst : Int
  sb : Int
  db : Int
  lo : Int
  hi : Int
  act : Int
deriving Inhabited
def Rule.cells (r : Rule) : List Value := [.int .i64 r.fr, .int .i64 r.to, .int .i64 r.proto, .int .u32 r.src, .int .u32 r.dst, .int .i64 r.sb, .int .i64 r.db, .int .i64 r.lo, .int .i64 r.hi, .int .i64 r.act]
/-- the fields lie in their types' bounds -/
def Rule.wf (r : Rule) : Prop := (0 ≤ r.src ∧ r.src ≤ 4294967295) ∧ (0 ≤ r.dst ∧ r.dst ≤ 4294967295)
structure Tup where
  proto : Int
  src : Int
  sport : Int
  dst : Int
  dport : Int
deriving Inhabited
def Tup.cells (t : Tup) : List Value := [.int .i64 t.proto, .int .u32 t.src, .int .i64 t.sport, .int .u32 t.dst, .int .i64 t.dport]
def Tup.wf (t : Tup) : Prop := (0 ≤ t.src ∧ t.src ≤ 4294967295) ∧ (0 ≤ t.dst ∧ t.dst ≤ 4294967295)
def withinB (n a b : Int) : Bool := decide (a ≤ n) && decide (n ≤ b)
def zonesB (r : Rule) (fr to : Int) : Bool := (r.fr == -1 || r.fr == fr) && (r.to == -1 || r.to == to)
def mayB (r : Rule) : Bool :=
  (withinB r.fr (-1) 7 && withinB r.to (-1) 7) && (withinB r.sb 0 32 && withinB r.db 0 32) && (withinB r.lo 0 r.hi && decide (r.hi ≤ 65535)) && withinB r.proto 0 255 && withinB r.act 1 2
def fitsB (r : Rule) (fr to : Int) (t : Tup) : Bool :=
  !(!zonesB r fr to || (r.proto != 0 && r.proto != t.proto)) && (Net.inB t.src r.src r.sb && Net.inB t.dst r.dst r.db && withinB t.dport r.lo r.hi)
def rightB (l : List Rule) : Bool := decide (l.length ≤ 64) && l.all mayB
end Rules
end Go.Proofs.Ytdocojhjknhjnaa
