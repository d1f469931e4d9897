/- SHA-256, plainly: words of 32 bits. No program in sight. -/
import Derived.WalkKit
namespace Go.Proofs.YtppcccocnmhbgaaDoor
open Go
set_option linter.unusedVariables false

abbrev B32 := BitVec 32
def ror (x : B32) (n : Nat) : B32 := x.rotateRight n
def sg0 (x : B32) : B32 := ror x 7 ^^^ ror x 18 ^^^ (x >>> 3)
def sg1 (x : B32) : B32 := ror x 17 ^^^ ror x 19 ^^^ (x >>> 10)
def Sg0 (x : B32) : B32 := ror x 2 ^^^ ror x 13 ^^^ ror x 22
def Sg1 (x : B32) : B32 := ror x 6 ^^^ ror x 11 ^^^ ror x 25
def chs (e f g : B32) : B32 := (e &&& f) ^^^ (~~~e &&& g)
def maj (a b c : B32) : B32 := (a &&& b) ^^^ (a &&& c) ^^^ (b &&& c)
theorem chs_alt (e f g : B32) : g ^^^ (e &&& (f ^^^ g)) = chs e f g := by
  unfold chs
  apply BitVec.eq_of_getLsbD_eq
  intro i hi
  simp only [BitVec.getLsbD_xor, BitVec.getLsbD_and, BitVec.getLsbD_not]
  cases e.getLsbD i <;> cases f.getLsbD i <;> cases g.getLsbD i <;> simp [hi]
theorem maj_alt (a b c : B32) : (a &&& b) ||| (c &&& (a ||| b)) = maj a b c := by
  unfold maj
  apply BitVec.eq_of_getLsbD_eq
  intro i hi
  simp only [BitVec.getLsbD_xor, BitVec.getLsbD_and, BitVec.getLsbD_or]
  cases a.getLsbD i <;> cases b.getLsbD i <;> cases c.getLsbD i <;> rfl
def shaK : List Nat := [
  0x428a2f98, 0x71374491, 0xb5c0fbcf, 0xe9b5dba5, 0x3956c25b, 0x59f111f1, 0x923f82a4, 0xab1c5ed5,
  0xd807aa98, 0x12835b01, 0x243185be, 0x550c7dc3, 0x72be5d74, 0x80deb1fe, 0x9bdc06a7, 0xc19bf174,
  0xe49b69c1, 0xefbe4786, 0x0fc19dc6, 0x240ca1cc, 0x2de92c6f, 0x4a7484aa, 0x5cb0a9dc, 0x76f988da,
  0x983e5152, 0xa831c66d, 0xb00327c8, 0xbf597fc7, 0xc6e00bf3, 0xd5a79147, 0x06ca6351, 0x14292967,
  0x27b70a85, 0x2e1b2138, 0x4d2c6dfc, 0x53380d13, 0x650a7354, 0x766a0abb, 0x81c2c92e, 0x92722c85,
  0xa2bfe8a1, 0xa81a664b, 0xc24b8b70, 0xc76c51a3, 0xd192e819, 0xd6990624, 0xf40e3585, 0x106aa070,
  0x19a4c116, 0x1e376c08, 0x2748774c, 0x34b0bcb5, 0x391c0cb3, 0x4ed8aa4a, 0x5b9cca4f, 0x682e6ff3,
  0x748f82ee, 0x78a5636f, 0x84c87814, 0x8cc70208, 0x90befffa, 0xa4506ceb, 0xbef9a3f7, 0xc67178f2]
def kw (i : Nat) : B32 := BitVec.ofNat 32 (shaK.getD i 0)
/-- the words of a block -/
def shw (m : Nat → B32) : Nat → B32
  | i => if h : i < 16 then m i else sg1 (shw m (i - 2)) + shw m (i - 7) + sg0 (shw m (i - 15)) + shw m (i - 16)
termination_by i => i
theorem shw_lo (m : Nat → B32) (i : Nat) (h : i < 16) : shw m i = m i := by rw [shw, dif_pos h]
theorem shw_hi (m : Nat → B32) (i : Nat) (h : 16 ≤ i) : shw m i = sg1 (shw m (i - 2)) + shw m (i - 7) + sg0 (shw m (i - 15)) + shw m (i - 16) := by rw [shw, dif_neg (by omega)]
def T1 (s : Nat → B32) (k w : B32) : B32 := s 7 + Sg1 (s 4) + chs (s 4) (s 5) (s 6) + k + w
def T2 (s : Nat → B32) : B32 := Sg0 (s 0) + maj (s 0) (s 1) (s 2)
def rnd (s : Nat → B32) (k w : B32) (i : Nat) : B32 := if i = 0 then T1 s k w + T2 s else if i = 4 then s 3 + T1 s k w else s (i - 1)
def rnds (m s : Nat → B32) : Nat → Nat → B32
  | 0 => s
  | i + 1 => rnd (rnds m s i) (kw i) (shw m i)
/-- a block is taken -/
def blockS (s m : Nat → B32) (i : Nat) : B32 := s i + rnds m s 64 i
/-- four bytes are a word, the highest first -/
def be4 (x0 x1 x2 x3 : Int) : B32 := BitVec.ofInt 32 (((x0 * 256 + x1) * 256 + x2) * 256 + x3)
/-- the words of 64 bytes at a place -/
def msgAt (bs : List Int) (at' : Nat) (i : Nat) : B32 := be4 (bs.getD (at' + 4 * i) 0) (bs.getD (at' + 4 * i + 1) 0) (bs.getD (at' + 4 * i + 2) 0) (bs.getD (at' + 4 * i + 3) 0)
def s0 (i : Nat) : B32 := BitVec.ofNat 32 ([0x6a09e667, 0xbb67ae85, 0x3c6ef372, 0xa54ff53a, 0x510e527f, 0x9b05688c, 0x1f83d9ab, 0x5be0cd19].getD i 0)
/-- so many blocks are taken -/
def blocksS (bs : List Int) : Nat → Nat → B32
  | 0 => s0
  | n + 1 => blockS (blocksS bs n) (msgAt bs (64 * n))
/-- how many noughts stand behind the byte 128 -/
def zpad (n : Nat) : Nat := (119 - n % 64) % 64
/-- the number of bits, the highest byte first -/
def bits8 (n : Nat) : List Int := (List.range 8).map fun i => (((n * 8) / 2 ^ (56 - 8 * i) % 256 : Nat) : Int)
def padS (bs : List Int) : List Int := bs ++ [128] ++ List.replicate (zpad bs.length) 0 ++ bits8 bs.length
theorem padS_length (bs : List Int) : (padS bs).length = bs.length + 1 + zpad bs.length + 8 := by simp [padS, bits8]; omega
theorem padS_mod (bs : List Int) : (padS bs).length % 64 = 0 := by rw [padS_length]; unfold zpad; omega
/-- bytes are a number, the lowest first -/
def hsum (f : Nat → Nat) : Nat → Nat
  | 0 => 0
  | n + 1 => hsum f n + 2 ^ (8 * n) * f n
def hashByte (s : Nat → B32) (i : Nat) : Nat := ((s (i / 4)).toNat / 2 ^ (24 - 8 * (i % 4))) % 256
/-- the hash, as a number whose lowest byte is the first one -/
def stHash (s : Nat → B32) : Nat := hsum (hashByte s) 32
def shaS (bs : List Int) : Nat := stHash (blocksS (padS bs) ((padS bs).length / 64))
end Go.Proofs.YtppcccocnmhbgaaDoor
