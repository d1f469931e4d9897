/- SHA-256: turning right, one by one; words out of bytes. No program in sight. -/
import Derived.Test.YtppcccocnmhbgaaDoorSha1
namespace Go.Proofs.YtppcccocnmhbgaaDoor
open Go
set_option linter.unusedVariables false

theorem ror_zero (x : B32) : ror x 0 = x := by
  unfold ror
  apply BitVec.eq_of_getLsbD_eq
  intro i hi
  rw [BitVec.getLsbD_rotateRight]
  simp [hi]
theorem ror_succ (x : B32) (k : Nat) (h : k + 1 < 32) : ror (ror x k) 1 = ror x (k + 1) := by
  unfold ror
  apply BitVec.eq_of_getLsbD_eq
  intro i hi
  simp only [BitVec.getLsbD_rotateRight, Bool.cond_decide]
  rw [show 1 % 32 = 1 from rfl, Nat.mod_eq_of_lt (by omega : k < 32), Nat.mod_eq_of_lt h]
  by_cases h1 : i < 32 - 1
  · rw [if_pos h1]
    by_cases h2 : 1 + i < 32 - k
    · rw [if_pos h2, if_pos (by omega)]; congr 1; omega
    · rw [if_neg h2]
      by_cases h3 : i < 32 - (k + 1)
      · omega
      · rw [if_neg h3]
        simp only [show decide (1 + i < 32) = true from decide_eq_true (by omega), show decide (i < 32) = true from decide_eq_true hi, Bool.true_and]
        congr 1; omega
  · rw [if_neg h1]
    obtain rfl : i = 31 := by omega
    by_cases h3 : 31 < 32 - (k + 1)
    · omega
    · rw [if_neg h3]
      simp only [Nat.reduceSub, Nat.reduceLT, decide_true, Bool.true_and]
      by_cases h2 : (0 : Nat) < 32 - k
      · rw [if_pos h2]; congr 1; omega
      · omega
theorem iv_be4 (x0 x1 x2 x3 : Int) (h0 : 0 ≤ x0 ∧ x0 ≤ 255) (h1 : 0 ≤ x1 ∧ x1 ≤ 255) (h2 : 0 ≤ x2 ∧ x2 ≤ 255) (h3 : 0 ≤ x3 ∧ x3 ≤ 255) : iv (be4 x0 x1 x2 x3) = ((x0 * 256 + x1) * 256 + x2) * 256 + x3 := by
  unfold iv be4
  rw [BitVec.toNat_ofInt]
  omega
theorem wraps_u32 (n : Int) (h₀ : 0 ≤ n) (h₁ : n < 2 ^ 32) : IntKind.u32.wrap n = n := by rw [IntKind.wrap_u32]; omega
theorem or_be4 (x0 x1 x2 x3 : Int) (h0 : 0 ≤ x0 ∧ x0 ≤ 255) (h1 : 0 ≤ x1 ∧ x1 ≤ 255) (h2 : 0 ≤ x2 ∧ x2 ≤ 255) (h3 : 0 ≤ x3 ∧ x3 ≤ 255) :
    bits .or .u32 (bits .or .u32 (bits .or .u32 (x0 * 16777216) (x1 * 65536)) (x2 * 256)) x3 = iv (be4 x0 x1 x2 x3) := by
  have J := bits_join .u32 32 (by decide) wraps_u32
  rw [J 24 (x0 * 16777216) (x1 * 65536) (by omega) (by omega) (by omega) (by omega) (by omega) (by omega)]
  rw [J 16 (x0 * 16777216 + x1 * 65536) (x2 * 256) (by omega) (by omega) (by omega) (by omega) (by omega) (by omega)]
  rw [J 8 (x0 * 16777216 + x1 * 65536 + x2 * 256) x3 (by omega) (by omega) (by omega) (by omega) (by omega) (by omega)]
  rw [iv_be4 x0 x1 x2 x3 h0 h1 h2 h3]
  omega
end Go.Proofs.YtppcccocnmhbgaaDoor
