import Derived.WalkKit
import Derived.Laws.BitsLemmas
import Derived.Test.YtbjbjgfjaopibaaDoorRows
import Derived.Test.YtbjbjgfjaopibaaDoorCr1
import Derived.Test.YtbjbjgfjaopibaaDoorCr2
import Derived.Deep.LoopGhost
import Derived.Deep.MidRow
import Derived.Test.YtbjbjgfjaopibaaDoorCr4
section
/- SHA-256, plainly: words of 32 bits. No program in sight. -/
namespace Go.Proofs.YtbjbjgfjaopibaaDoor
open Go
set_option linter.unusedVariables false

abbrev B32 := BitVec 32
def ror (x : B32) (n : Nat) : B32 := x.rotateRight n
def sg0 (x : B32) : B32 := ror x 7 ^^^ ror x 18 ^^^ (x >>> 3)
def sg1 (x : B32) : B32 := ror x 17 ^^^ ror x 19 ^^^ (x >>> 10)
def Sg0 (x : B32) : B32 := ror x 2 ^^^ ror x 13 ^^^ ror x 22
def Sg1 (x : B32) : B32 := ror x 6 ^^^ ror x 11 ^^^ ror x 25
def chs (e f g : B32) : B32 := (e &&& f) ^^^ (~~~e &&& g)
def maj (a b c : B32) : B32 := (a &&& b) ^^^ (a &&& c) ^^^ (b &&& c)
theorem chs_alt (e f g : B32) : g ^^^ (e &&& (f ^^^ g)) = chs e f g := by
  unfold chs
  apply BitVec.eq_of_getLsbD_eq
  intro i hi
  simp only [BitVec.getLsbD_xor, BitVec.getLsbD_and, BitVec.getLsbD_not]
  cases e.getLsbD i <;> cases f.getLsbD i <;> cases g.getLsbD i <;> simp [hi]
theorem maj_alt (a b c : B32) : (a &&& b) ||| (c &&& (a ||| b)) = maj a b c := by
  unfold maj
  apply BitVec.eq_of_getLsbD_eq
  intro i hi
  simp only [BitVec.getLsbD_xor, BitVec.getLsbD_and, BitVec.getLsbD_or]
  cases a.getLsbD i <;> cases b.getLsbD i <;> cases c.getLsbD i <;> rfl
def shaK : List Nat := [
  0x428a2f98, 0x71374491, 0xb5c0fbcf, 0xe9b5dba5, 0x3956c25b, 0x59f111f1, 0x923f82a4, 0xab1c5ed5,
  0xd807aa98, 0x12835b01, 0x243185be, 0x550c7dc3, 0x72be5d74, 0x80deb1fe, 0x9bdc06a7, 0xc19bf174,
  0xe49b69c1, 0xefbe4786, 0x0fc19dc6, 0x240ca1cc, 0x2de92c6f, 0x4a7484aa, 0x5cb0a9dc, 0x76f988da,
  0x983e5152, 0xa831c66d, 0xb00327c8, 0xbf597fc7, 0xc6e00bf3, 0xd5a79147, 0x06ca6351, 0x14292967,
  0x27b70a85, 0x2e1b2138, 0x4d2c6dfc, 0x53380d13, 0x650a7354, 0x766a0abb, 0x81c2c92e, 0x92722c85,
  0xa2bfe8a1, 0xa81a664b, 0xc24b8b70, 0xc76c51a3, 0xd192e819, 0xd6990624, 0xf40e3585, 0x106aa070,
  0x19a4c116, 0x1e376c08, 0x2748774c, 0x34b0bcb5, 0x391c0cb3, 0x4ed8aa4a, 0x5b9cca4f, 0x682e6ff3,
  0x748f82ee, 0x78a5636f, 0x84c87814, 0x8cc70208, 0x90befffa, 0xa4506ceb, 0xbef9a3f7, 0xc67178f2]
def kw (i : Nat) : B32 := BitVec.ofNat 32 (shaK.getD i 0)
/-- the words of a block -/
def shw (m : Nat → B32) : Nat → B32
  | i => if h : i < 16 then m i else sg1 (shw m (i - 2)) + shw m (i - 7) + sg0 (shw m (i - 15)) + shw m (i - 16)
termination_by i => i
theorem shw_lo (m : Nat → B32) (i : Nat) (h : i < 16) : shw m i = m i := by rw [shw, dif_pos h]
theorem shw_hi (m : Nat → B32) (i : Nat) (h : 16 ≤ i) : shw m i = sg1 (shw m (i - 2)) + shw m (i - 7) + sg0 (shw m (i - 15)) + shw m (i - 16) := by rw [shw, dif_neg (by omega)]
def T1 (s : Nat → B32) (k w : B32) : B32 := s 7 + Sg1 (s 4) + chs (s 4) (s 5) (s 6) + k + w
def T2 (s : Nat → B32) : B32 := Sg0 (s 0) + maj (s 0) (s 1) (s 2)
def rnd (s : Nat → B32) (k w : B32) (i : Nat) : B32 := if i = 0 then T1 s k w + T2 s else if i = 4 then s 3 + T1 s k w else s (i - 1)
def rnds (m s : Nat → B32) : Nat → Nat → B32
  | 0 => s
  | i + 1 => rnd (rnds m s i) (kw i) (shw m i)
/-- a block is taken -/
def blockS (s m : Nat → B32) (i : Nat) : B32 := s i + rnds m s 64 i
/-- four bytes are a word, the highest first -/
def be4 (x0 x1 x2 x3 : Int) : B32 := BitVec.ofInt 32 (((x0 * 256 + x1) * 256 + x2) * 256 + x3)
/-- the words of 64 bytes at a place -/
def msgAt (bs : List Int) (at' : Nat) (i : Nat) : B32 := be4 (bs.getD (at' + 4 * i) 0) (bs.getD (at' + 4 * i + 1) 0) (bs.getD (at' + 4 * i + 2) 0) (bs.getD (at' + 4 * i + 3) 0)
def s0 (i : Nat) : B32 := BitVec.ofNat 32 ([0x6a09e667, 0xbb67ae85, 0x3c6ef372, 0xa54ff53a, 0x510e527f, 0x9b05688c, 0x1f83d9ab, 0x5be0cd19].getD i 0)
/-- so many blocks are taken -/
def blocksS (bs : List Int) : Nat → Nat → B32
  | 0 => s0
  | n + 1 => blockS (blocksS bs n) (msgAt bs (64 * n))
/-- how many noughts stand behind the byte 128 -/
def zpad (n : Nat) : Nat := (119 - n % 64) % 64
/-- the number of bits, the highest byte first -/
def bits8 (n : Nat) : List Int := (List.range 8).map fun i => (((n * 8) / 2 ^ (56 - 8 * i) % 256 : Nat) : Int)
def padS (bs : List Int) : List Int := bs ++ [128] ++ List.replicate (zpad bs.length) 0 ++ bits8 bs.length
theorem padS_length (bs : List Int) : (padS bs).length = bs.length + 1 + zpad bs.length + 8 := by simp [padS, bits8]; omega
theorem padS_mod (bs : List Int) : (padS bs).length % 64 = 0 := by rw [padS_length]; unfold zpad; omega
/-- bytes are a number, the lowest first -/
def hsum (f : Nat → Nat) : Nat → Nat
  | 0 => 0
  | n + 1 => hsum f n + 2 ^ (8 * n) * f n
def hashByte (s : Nat → B32) (i : Nat) : Nat := ((s (i / 4)).toNat / 2 ^ (24 - 8 * (i % 4))) % 256
/-- the hash, as a number whose lowest byte is the first one -/
def stHash (s : Nat → B32) : Nat := hsum (hashByte s) 32
def shaS (bs : List Int) : Nat := stHash (blocksS (padS bs) ((padS bs).length / 64))
end Go.Proofs.YtbjbjgfjaopibaaDoor
end

section
/- Words of 32 bits as Go's values. No program in sight. -/
namespace Go.Proofs.YtbjbjgfjaopibaaDoor
open Go
set_option linter.unusedVariables false

def iv (x : B32) : Int := (x.toNat : Int)
theorem iv_nonneg (x : B32) : 0 ≤ iv x := Int.natCast_nonneg _
theorem iv_lt (x : B32) : iv x < 4294967296 := by have := x.isLt; unfold iv; omega
theorem iv_add (a b : B32) : IntKind.u32.wrap (iv a + iv b) = iv (a + b) := by
  rw [IntKind.wrap_u32]; unfold iv; rw [BitVec.toNat_add]; omega
theorem iv_wrap (a : B32) : IntKind.u32.wrap (iv a) = iv a := by
  rw [IntKind.wrap_u32]; have := iv_nonneg a; have := iv_lt a; omega
theorem ofInt_iv (a : B32) : BitVec.ofInt 32 (iv a) = a := by unfold iv; rw [BitVec.ofInt_natCast, BitVec.ofNat_toNat]; simp
theorem iv_xor (a b : B32) : bits .xor .u32 (iv a) (iv b) = iv (a ^^^ b) := by
  show IntKind.u32.wrap ((BitVec.ofInt 32 (iv a) ^^^ BitVec.ofInt 32 (iv b)).toNat : Int) = _
  rw [ofInt_iv, ofInt_iv]; exact iv_wrap (a ^^^ b)
theorem iv_and (a b : B32) : bits .and .u32 (iv a) (iv b) = iv (a &&& b) := by
  show IntKind.u32.wrap ((BitVec.ofInt 32 (iv a) &&& BitVec.ofInt 32 (iv b)).toNat : Int) = _
  rw [ofInt_iv, ofInt_iv]; exact iv_wrap (a &&& b)
theorem iv_or (a b : B32) : bits .or .u32 (iv a) (iv b) = iv (a ||| b) := by
  show IntKind.u32.wrap ((BitVec.ofInt 32 (iv a) ||| BitVec.ofInt 32 (iv b)).toNat : Int) = _
  rw [ofInt_iv, ofInt_iv]; exact iv_wrap (a ||| b)
theorem iv_shr (a : B32) (n : Nat) : iv a / 2 ^ n = iv (a >>> n) := by
  unfold iv
  rw [BitVec.toNat_ushiftRight, Nat.shiftRight_eq_div_pow]
  simp
theorem iv_shl (a : B32) (n : Nat) : IntKind.u32.wrap (iv a * 2 ^ n) = iv (a <<< n) := by
  rw [IntKind.wrap_u32]; unfold iv
  rw [BitVec.toNat_shiftLeft, Nat.shiftLeft_eq]
  simp
theorem ror_or (x : B32) (n : Nat) (h : n < 32) : (x <<< (32 - n)) ||| (x >>> n) = ror x n := by
  unfold ror BitVec.rotateRight BitVec.rotateRightAux
  rw [Nat.mod_eq_of_lt h, BitVec.or_comm]
end Go.Proofs.YtbjbjgfjaopibaaDoor
end

section
/- SHA-256, the program's: RotateLeft32, xor3. -/
namespace Go.Proofs.YtbjbjgfjaopibaaDoor
open Go Go.RowKit
set_option linter.unusedSimpArgs false
set_option linter.unusedVariables false
set_option maxRecDepth 100000

theorem shl32 (x : B32) (s : Nat) (h : s ≤ 32) : Op.shift .shl .u32 (iv x) .u64 (s : Int) = pure (.int .u32 (iv (x <<< s))) := by
  rw [shift_shl .u32 .u64 (iv x) (s : Int) (by omega) (by show (s : Int) ≤ 32; omega), Int.toNat_natCast, iv_shl]
theorem shr32 (x : B32) (s : Nat) (h : s ≤ 32) : Op.shift .shr .u32 (iv x) .u64 (s : Int) = pure (.int .u32 (iv (x >>> s))) := by
  rw [shift_shr .u32 .u64 (iv x) (s : Int) (by omega) (by show (s : Int) ≤ 32; omega), Int.toNat_natCast, iv_shr]
theorem rot_mask (n s : Nat) (h0 : 0 < n) (hs : n + s = 32) : bits .and .u64 (IntKind.u64.wrap (-(n : Int))) 31 = (s : Int) := by
  have hw : IntKind.u64.wrap (-(n : Int)) = 18446744073709551616 - n := by
    simp [IntKind.wrap, IntKind.bits, IntKind.signed]; omega
  rw [hw]
  have := bits_mask .u64 64 (by decide) (fun m h0 h1 => by simp [IntKind.wrap, IntKind.bits, IntKind.signed]; omega) 5 (by decide) (18446744073709551616 - (n : Int)) (by omega) (by omega)
  rw [show (2 : Int) ^ 5 - 1 = 31 from rfl] at this
  rw [this]; omega
theorem rotl (x : B32) (n : Nat) (h0 : 0 < n) (h1 : n < 32) (w : World) :
    Calls Tryd.prog 102 #[.int .u32 (iv x), .int .i64 (-(n : Int))] w fun e w' => e = .returned (.int .u32 (iv (ror x n))) ∧ w = w' := by
  obtain ⟨s, hs⟩ : ∃ s, n + s = 32 := ⟨32 - n, by omega⟩
  have hm := rot_mask n s h0 hs
  have hd : IntKind.u64.wrap (32 - (s : Int)) = (n : Int) := by simp [IntKind.wrap, IntKind.bits, IntKind.signed]; omega
  have e1 := shl32 x s (by omega)
  have e2 := shr32 x n (by omega)
  have OR := iv_or
  have HE := Lib.hid (show (x <<< s) ||| (x >>> n) = ror x n from by rw [← ror_or x n h1, show 32 - n = s from by omega])
  clear h0 h1 hs
  go_enter Tryd.func102, Tryd.ntmps102
  go_wp2
  go_ret
  exact ⟨by rw [← HE.out]; rfl, rfl⟩
theorem xor3 (x c : B32) (a b : Nat) (ha : 0 < a) (ha1 : a < 32) (hb : 0 < b) (hb1 : b < 32) (w : World) :
    Calls Tryd.prog 101 #[.int .u32 (iv x), .int .i64 (a : Int), .int .i64 (b : Int), .int .u32 (iv c)] w fun e w' => e = .returned (.int .u32 (iv (ror x a ^^^ ror x b ^^^ c))) ∧ w = w' := by
  have XOR := iv_xor
  have R1 := Lib.hid (rotl x a ha ha1 w)
  have R2 := Lib.hid (rotl x b hb hb1 w)
  have hna : IntKind.i64.wrap (-(a : Int)) = -(a : Int) := by rw [IntKind.wrap_i64]; omega
  have hnb : IntKind.i64.wrap (-(b : Int)) = -(b : Int) := by rw [IntKind.wrap_i64]; omega
  go_enter Tryd.func101, Tryd.ntmps101
  go_wp2_with fail
  refine R1.out.mono ?_
  rintro e w1 ⟨rfl, rfl⟩
  go_wp2_with fail
  refine R2.out.mono ?_
  rintro e w1 ⟨rfl, rfl⟩
  go_wp2
  go_ret
  exact ⟨rfl, rfl⟩
end Go.Proofs.YtbjbjgfjaopibaaDoor
end

section
/- SHA-256, the program's: the Hasher in memory; block. -/
namespace Go.Proofs.YtbjbjgfjaopibaaDoor
open Go Go.RowKit
set_option linter.unusedSimpArgs false
set_option linter.unusedVariables false
set_option maxRecDepth 100000

theorem two_new (w : World) (c1 c2 : Array Value) (t1 t2 : TypeId) : Blk ((w.alloc (.cells c1 t1)).alloc (.cells c2 t2)) w.heap.size c1 t1 ∧ Blk ((w.alloc (.cells c1 t1)).alloc (.cells c2 t2)) (w.heap.size + 1) c2 t2 ∧ Below w.heap.size w ((w.alloc (.cells c1 t1)).alloc (.cells c2 t2)) := by
  have b1 := Blk.new w c1 t1
  have k := (Below.refl (w.alloc (.cells c1 t1)).heap.size (w.alloc (.cells c1 t1))).alloc (Nat.le_refl _) (.cells c2 t2)
  have hs : (w.alloc (.cells c1 t1)).heap.size = w.heap.size + 1 := by simp
  refine ⟨b1.beyond k, ?_, ((Below.refl w.heap.size w).alloc (Nat.le_refl _) _).alloc (by rw [hs]; omega) _⟩
  have := Blk.new (w.alloc (.cells c1 t1)) c2 t2
  rw [hs] at this; exact this
def u8c (x : Nat → Int) (n : Nat) : List Value := (List.range n).map fun j => .int .u8 (x j)
def u32c (x : Nat → B32) (n : Nat) : List Value := (List.range n).map fun j => .int .u32 (iv (x j))
theorem u8c_length (x : Nat → Int) (n : Nat) : (u8c x n).length = n := by simp [u8c]
theorem u32c_length (x : Nat → B32) (n : Nat) : (u32c x n).length = n := by simp [u32c]
theorem u8c_get (x : Nat → Int) (n j : Nat) (h : j < n) : (u8c x n)[j]? = some (.int .u8 (x j)) := by simp [u8c, h]
theorem u32c_get (x : Nat → B32) (n j : Nat) (h : j < n) : (u32c x n)[j]? = some (.int .u32 (iv (x j))) := by simp [u32c, h]
theorem u32c_one (x : Nat → B32) (n : Nat) : ∀ u ∈ u32c x n, u.oneCell' = true := by intro u hu; obtain ⟨j, _, rfl⟩ := List.mem_map.1 hu; rfl
theorem u8c_one (x : Nat → Int) (n : Nat) : ∀ u ∈ u8c x n, u.oneCell' = true := by intro u hu; obtain ⟨j, _, rfl⟩ := List.mem_map.1 hu; rfl
/-- the cells of a Hasher that New made -/
def hcl (σ : Nat → B32) (P : Nat → Int) (n : Nat) : List Value := .bool true :: (u32c σ 8 ++ (u8c P 64 ++ [.int .u64 (n : Int)]))
theorem hcl_length (σ : Nat → B32) (P : Nat → Int) (n : Nat) : (hcl σ P n).length = 74 := by simp [hcl, u8c, u32c]
theorem hcl_w (σ : Nat → B32) (P : Nat → Int) (n j : Nat) (h : j < 8) : (hcl σ P n)[1 + j]? = some (.int .u32 (iv (σ j))) := by
  unfold hcl
  rw [Nat.add_comm 1 j, List.getElem?_cons_succ, List.getElem?_append_left (by rw [u32c_length]; exact h), u32c_get _ _ _ h]
theorem hcl_p (σ : Nat → B32) (P : Nat → Int) (n j : Nat) (h : j < 64) : (hcl σ P n)[9 + j]? = some (.int .u8 (P j)) := by
  unfold hcl
  rw [show 9 + j = (8 + j) + 1 from by omega, List.getElem?_cons_succ, List.getElem?_append_right (by rw [u32c_length]; omega), u32c_length, List.getElem?_append_left (by rw [u8c_length]; omega), show 8 + j - 8 = j from by omega, u8c_get _ _ _ h]
theorem hcl_n (σ : Nat → B32) (P : Nat → Int) (n : Nat) : (hcl σ P n)[73]? = some (.int .u64 (n : Int)) := by
  unfold hcl
  rw [List.getElem?_cons_succ, List.getElem?_append_right (by rw [u32c_length]; omega), u32c_length, List.getElem?_append_right (by rw [u8c_length]; omega), u8c_length]; rfl
theorem hcl_ext {σ τ : Nat → B32} {P Q : Nat → Int} {n m : Nat} (h1 : ∀ j, j < 8 → σ j = τ j) (h2 : ∀ j, j < 64 → P j = Q j) (h3 : n = m) : hcl σ P n = hcl τ Q m := by
  unfold hcl u32c u8c
  subst h3
  congr 2
  · exact List.map_congr_left fun j hj => by rw [h1 j (List.mem_range.1 hj)]
  · congr 1
    exact List.map_congr_left fun j hj => by rw [h2 j (List.mem_range.1 hj)]
theorem hcl_setw (σ : Nat → B32) (P : Nat → Int) (n i : Nat) (v : B32) (h : i < 8) : (hcl σ P n).toArray.setIfInBounds (1 + i) (.int .u32 (iv v)) = (hcl (fun k => if k = i then v else σ k) P n).toArray := by
  rw [List.setIfInBounds_toArray]
  congr 1
  apply List.ext_getElem?
  intro j
  rw [List.getElem?_set]
  by_cases hj : 1 + i = j
  · subst hj
    rw [if_pos rfl, if_pos (by rw [hcl_length]; omega), hcl_w _ _ _ _ h, if_pos rfl]
  · rw [if_neg hj]
    by_cases h0 : j < 1 + 8 ∧ 1 ≤ j
    · obtain ⟨t, rfl⟩ : ∃ t, j = 1 + t := ⟨j - 1, by omega⟩
      rw [hcl_w _ _ _ _ (by omega), hcl_w _ _ _ _ (by omega), if_neg (by omega)]
    · by_cases h1 : j = 0
      · subst h1; rfl
      · by_cases h2 : j < 73
        · obtain ⟨t, rfl⟩ : ∃ t, j = 9 + t := ⟨j - 9, by omega⟩
          rw [hcl_p _ _ _ _ (by omega), hcl_p _ _ _ _ (by omega)]
        · by_cases h3 : j = 73
          · subst h3; rw [hcl_n, hcl_n]
          · rw [List.getElem?_eq_none (by rw [hcl_length]; omega), List.getElem?_eq_none (by rw [hcl_length]; omega)]
/-- the words of a block, so many of them -/
def wcl (m : Nat → B32) (k : Nat) : List Value := u32c (fun i => if i < k then shw m i else 0) 64
theorem wcl_get (m : Nat → B32) (k j : Nat) (h : j < k) (hk : k ≤ 64) : (wcl m k)[j]? = some (.int .u32 (iv (shw m j))) := by
  unfold wcl; rw [u32c_get _ _ _ (by omega), if_pos h]
theorem wcl_set (m : Nat → B32) (k : Nat) (hk : k < 64) : (wcl m k).toArray.setIfInBounds k (.int .u32 (iv (shw m k))) = (wcl m (k + 1)).toArray := by
  rw [List.setIfInBounds_toArray]
  congr 1
  apply List.ext_getElem?
  intro j
  rw [List.getElem?_set]
  unfold wcl
  by_cases hj : k = j
  · subst hj
    rw [if_pos rfl, if_pos (by rw [u32c_length]; omega), u32c_get _ _ _ hk, if_pos (by omega)]
  · rw [if_neg hj]
    by_cases h : j < 64
    · rw [u32c_get _ _ _ h, u32c_get _ _ _ h]
      by_cases h2 : j < k
      · rw [if_pos h2, if_pos (by omega)]
      · rw [if_neg h2, if_neg (by omega)]
    · rw [List.getElem?_eq_none (by rw [u32c_length]; omega), List.getElem?_eq_none (by rw [u32c_length]; omega)]
/-- the 16 words of 64 bytes -/
def msgX (x : Nat → Int) (i : Nat) : B32 := be4 (x (4 * i)) (x (4 * i + 1)) (x (4 * i + 2)) (x (4 * i + 3))
end Go.Proofs.YtbjbjgfjaopibaaDoor
end

section
/- SHA-256: turning right, one by one; words out of bytes. No program in sight. -/
namespace Go.Proofs.YtbjbjgfjaopibaaDoor
open Go
set_option linter.unusedVariables false

theorem ror_zero (x : B32) : ror x 0 = x := by
  unfold ror
  apply BitVec.eq_of_getLsbD_eq
  intro i hi
  rw [BitVec.getLsbD_rotateRight]
  simp [hi]
theorem ror_succ (x : B32) (k : Nat) (h : k + 1 < 32) : ror (ror x k) 1 = ror x (k + 1) := by
  unfold ror
  apply BitVec.eq_of_getLsbD_eq
  intro i hi
  simp only [BitVec.getLsbD_rotateRight, Bool.cond_decide]
  rw [show 1 % 32 = 1 from rfl, Nat.mod_eq_of_lt (by omega : k < 32), Nat.mod_eq_of_lt h]
  by_cases h1 : i < 32 - 1
  · rw [if_pos h1]
    by_cases h2 : 1 + i < 32 - k
    · rw [if_pos h2, if_pos (by omega)]; congr 1; omega
    · rw [if_neg h2]
      by_cases h3 : i < 32 - (k + 1)
      · omega
      · rw [if_neg h3]
        simp only [show decide (1 + i < 32) = true from decide_eq_true (by omega), show decide (i < 32) = true from decide_eq_true hi, Bool.true_and]
        congr 1; omega
  · rw [if_neg h1]
    obtain rfl : i = 31 := by omega
    by_cases h3 : 31 < 32 - (k + 1)
    · omega
    · rw [if_neg h3]
      simp only [Nat.reduceSub, Nat.reduceLT, decide_true, Bool.true_and]
      by_cases h2 : (0 : Nat) < 32 - k
      · rw [if_pos h2]; congr 1; omega
      · omega
theorem iv_be4 (x0 x1 x2 x3 : Int) (h0 : 0 ≤ x0 ∧ x0 ≤ 255) (h1 : 0 ≤ x1 ∧ x1 ≤ 255) (h2 : 0 ≤ x2 ∧ x2 ≤ 255) (h3 : 0 ≤ x3 ∧ x3 ≤ 255) : iv (be4 x0 x1 x2 x3) = ((x0 * 256 + x1) * 256 + x2) * 256 + x3 := by
  unfold iv be4
  rw [BitVec.toNat_ofInt]
  omega
theorem wraps_u32 (n : Int) (h₀ : 0 ≤ n) (h₁ : n < 2 ^ 32) : IntKind.u32.wrap n = n := by rw [IntKind.wrap_u32]; omega
theorem or_be4 (x0 x1 x2 x3 : Int) (h0 : 0 ≤ x0 ∧ x0 ≤ 255) (h1 : 0 ≤ x1 ∧ x1 ≤ 255) (h2 : 0 ≤ x2 ∧ x2 ≤ 255) (h3 : 0 ≤ x3 ∧ x3 ≤ 255) :
    bits .or .u32 (bits .or .u32 (bits .or .u32 (x0 * 16777216) (x1 * 65536)) (x2 * 256)) x3 = iv (be4 x0 x1 x2 x3) := by
  have J := bits_join .u32 32 (by decide) wraps_u32
  rw [J 24 (x0 * 16777216) (x1 * 65536) (by omega) (by omega) (by omega) (by omega) (by omega) (by omega)]
  rw [J 16 (x0 * 16777216 + x1 * 65536) (x2 * 256) (by omega) (by omega) (by omega) (by omega) (by omega) (by omega)]
  rw [J 8 (x0 * 16777216 + x1 * 65536 + x2 * 256) x3 (by omega) (by omega) (by omega) (by omega) (by omega) (by omega)]
  rw [iv_be4 x0 x1 x2 x3 h0 h1 h2 h3]
  omega
end Go.Proofs.YtbjbjgfjaopibaaDoor
end
