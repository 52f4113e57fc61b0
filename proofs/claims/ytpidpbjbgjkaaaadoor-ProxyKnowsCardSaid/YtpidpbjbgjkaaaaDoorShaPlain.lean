/- The digest of package sha over numbers. No program in sight. -/
import Derived.Test.YtpidpbjbgjkaaaaDoorBase
import Derived.Laws.BitsAllLaws
namespace Go.Proofs.YtpidpbjbgjkaaaaDoor
open Go.RowKit
set_option linter.unusedVariables false
namespace Sha
/-- a word turned to the right -/
def rotr (n : Nat) (x : Int) : Int := x / 2 ^ n + x % 2 ^ n * 2 ^ (32 - n)
def xor3 (a b c : Int) : Int := bits .xor .u32 (bits .xor .u32 a b) c
def s0 (x : Int) : Int := xor3 (rotr 7 x) (rotr 18 x) (x / 8)
def s1 (x : Int) : Int := xor3 (rotr 17 x) (rotr 19 x) (x / 1024)
def b0 (x : Int) : Int := xor3 (rotr 2 x) (rotr 13 x) (rotr 22 x)
def b1 (x : Int) : Int := xor3 (rotr 6 x) (rotr 11 x) (rotr 25 x)
def ch (x y z : Int) : Int := bits .xor .u32 (bits .and .u32 x y) (bits .and .u32 (4294967295 - x) z)
def maj (x y z : Int) : Int := xor3 (bits .and .u32 x y) (bits .and .u32 x z) (bits .and .u32 y z)
def rounds : List Int := [1116352408, 1899447441, 3049323471, 3921009573, 961987163, 1508970993, 2453635748, 2870763221, 3624381080, 310598401, 607225278, 1426881987, 1925078388, 2162078206, 2614888103, 3248222580, 3835390401, 4022224774, 264347078, 604807628, 770255983, 1249150122, 1555081692, 1996064986, 2554220882, 2821834349, 2952996808, 3210313671, 3336571891, 3584528711, 113926993, 338241895, 666307205, 773529912, 1294757372, 1396182291, 1695183700, 1986661051, 2177026350, 2456956037, 2730485921, 2820302411, 3259730800, 3345764771, 3516065817, 3600352804, 4094571909, 275423344, 430227734, 506948616, 659060556, 883997877, 958139571, 1322822218, 1537002063, 1747873779, 1955562222, 2024104815, 2227730452, 2361852424, 2428436474, 2756734187, 3204031479, 3329325298]
/-- the words of a block of bytes -/
def wordAt (b : List Int) (i : Nat) : Int := ((b.getD (4 * i) 0 * 256 + b.getD (4 * i + 1) 0) * 256 + b.getD (4 * i + 2) 0) * 256 + b.getD (4 * i + 3) 0
def words (b : List Int) : List Int := (List.range 16).map (wordAt b)
/-- so many words more -/
def sched (w : List Int) : Nat → List Int
  | 0 => w
  | n + 1 => sched w n ++ [((sched w n).getD n 0 + (sched w n).getD (n + 9) 0 + s0 ((sched w n).getD (n + 1) 0) + s1 ((sched w n).getD (n + 14) 0)) % 4294967296]
structure V where
  a : Int
  b : Int
  c : Int
  d : Int
  e : Int
  f : Int
  g : Int
  h : Int
deriving DecidableEq
def first : V := ⟨1779033703, 3144134277, 1013904242, 2773480762, 1359893119, 2600822924, 528734635, 1541459225⟩
def step (v : V) (k w : Int) : V :=
  let t1 := (v.h + b1 v.e + ch v.e v.f v.g + k + w) % 4294967296
  let t2 := (b0 v.a + maj v.a v.b v.c) % 4294967296
  ⟨(t1 + t2) % 4294967296, v.a, v.b, v.c, (v.d + t1) % 4294967296, v.e, v.f, v.g⟩
def steps (w : List Int) (v : V) : Nat → V
  | 0 => v
  | n + 1 => step (steps w v n) (rounds.getD n 0) (w.getD n 0)
def add (x y : V) : V := ⟨(x.a + y.a) % 4294967296, (x.b + y.b) % 4294967296, (x.c + y.c) % 4294967296, (x.d + y.d) % 4294967296, (x.e + y.e) % 4294967296, (x.f + y.f) % 4294967296, (x.g + y.g) % 4294967296, (x.h + y.h) % 4294967296⟩
/-- a block mixed in -/
def mix (v : V) (b : List Int) : V := add v (steps (sched (words b) 48) v 64)
/-- whole blocks -/
def pad (b : List Int) : List Int := b ++ [128] ++ List.replicate ((b.length + 8) / 64 * 64 + 64 - b.length - 9) 0 ++
  (List.range 8).map fun i => ((b.length * 8 / 256 ^ (7 - i) % 256 : Nat) : Int)
def all (v : V) (p : List Int) : Nat → V
  | 0 => v
  | n + 1 => mix (all v p n) ((p.drop (64 * n)).take 64)
def word4 (x : Int) : List Int := [x / 16777216, x / 65536 % 256, x / 256 % 256, x % 256]
def bytes (v : V) : List Int := word4 v.a ++ word4 v.b ++ word4 v.c ++ word4 v.d ++ word4 v.e ++ word4 v.f ++ word4 v.g ++ word4 v.h
def sum (b : List Int) : List Int := bytes (all first (pad b) ((b.length + 8) / 64 + 1))
end Sha
end Go.Proofs.YtpidpbjbgjkaaaaDoor
