/- Words of 32 bits as Go's values. No program in sight. -/
import Derived.Test.YtppcccocnmhbgaaDoorSha0
import Derived.Laws.BitsLemmas
namespace Go.Proofs.YtppcccocnmhbgaaDoor
open Go
set_option linter.unusedVariables false

def iv (x : B32) : Int := (x.toNat : Int)
theorem iv_nonneg (x : B32) : 0 ≤ iv x := Int.natCast_nonneg _
theorem iv_lt (x : B32) : iv x < 4294967296 := by have := x.isLt; unfold iv; omega
theorem iv_add (a b : B32) : IntKind.u32.wrap (iv a + iv b) = iv (a + b) := by
  rw [IntKind.wrap_u32]; unfold iv; rw [BitVec.toNat_add]; omega
theorem iv_wrap (a : B32) : IntKind.u32.wrap (iv a) = iv a := by
  rw [IntKind.wrap_u32]; have := iv_nonneg a; have := iv_lt a; omega
theorem ofInt_iv (a : B32) : BitVec.ofInt 32 (iv a) = a := by unfold iv; rw [BitVec.ofInt_natCast, BitVec.ofNat_toNat]; simp
theorem iv_xor (a b : B32) : bits .xor .u32 (iv a) (iv b) = iv (a ^^^ b) := by
  show IntKind.u32.wrap ((BitVec.ofInt 32 (iv a) ^^^ BitVec.ofInt 32 (iv b)).toNat : Int) = _
  rw [ofInt_iv, ofInt_iv]; exact iv_wrap (a ^^^ b)
theorem iv_and (a b : B32) : bits .and .u32 (iv a) (iv b) = iv (a &&& b) := by
  show IntKind.u32.wrap ((BitVec.ofInt 32 (iv a) &&& BitVec.ofInt 32 (iv b)).toNat : Int) = _
  rw [ofInt_iv, ofInt_iv]; exact iv_wrap (a &&& b)
theorem iv_or (a b : B32) : bits .or .u32 (iv a) (iv b) = iv (a ||| b) := by
  show IntKind.u32.wrap ((BitVec.ofInt 32 (iv a) ||| BitVec.ofInt 32 (iv b)).toNat : Int) = _
  rw [ofInt_iv, ofInt_iv]; exact iv_wrap (a ||| b)
theorem iv_shr (a : B32) (n : Nat) : iv a / 2 ^ n = iv (a >>> n) := by
  unfold iv
  rw [BitVec.toNat_ushiftRight, Nat.shiftRight_eq_div_pow]
  simp
theorem iv_shl (a : B32) (n : Nat) : IntKind.u32.wrap (iv a * 2 ^ n) = iv (a <<< n) := by
  rw [IntKind.wrap_u32]; unfold iv
  rw [BitVec.toNat_shiftLeft, Nat.shiftLeft_eq]
  simp
theorem ror_or (x : B32) (n : Nat) (h : n < 32) : (x <<< (32 - n)) ||| (x >>> n) = ror x n := by
  unfold ror BitVec.rotateRight BitVec.rotateRightAux
  rw [Nat.mod_eq_of_lt h, BitVec.or_comm]
end Go.Proofs.YtppcccocnmhbgaaDoor
