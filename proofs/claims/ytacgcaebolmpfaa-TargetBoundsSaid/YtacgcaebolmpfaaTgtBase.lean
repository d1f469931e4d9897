/- Plain facts on targets and their bits: no program in sight. -/
import Derived.Test.YtacgcaebolmpfaaRefMul
import Derived.Test.YtacgcaebolmpfaaMul
namespace Go.Proofs.Ytacgcaebolmpfaa
open Go.RowKit

/-- the target that bits say, 0 where they say none -/
def tgt (b : Nat) : Nat :=
  if b / 2 ^ 23 % 2 = 1 then 0
  else if b / 2 ^ 24 < 3 then b % 2 ^ 23 / 2 ^ (8 * (3 - b / 2 ^ 24))
  else if 256 < blen (b % 2 ^ 23) + 8 * (b / 2 ^ 24 - 3) then 0
  else b % 2 ^ 23 * 2 ^ (8 * (b / 2 ^ 24 - 3))
def tErr (t : Nat) : Int := if t = 0 then 40 else 0
theorem tErr_zero : tErr 0 = 40 := rfl
theorem tErr_pos {t : Nat} (h : t ≠ 0) : tErr t = 0 := if_neg h
theorem wv_small {m : Nat} (h : m < 2 ^ 64) : wv m = .agg #[.int .u64 (m : Int), .int .u64 0, .int .u64 0, .int .u64 0] := by
  have e0 : wd m 0 = (m : Int) := by unfold wd; omega
  have e1 : wd m 1 = 0 := by unfold wd; omega
  have e2 : wd m 2 = 0 := by unfold wd; omega
  have e3 : wd m 3 = 0 := by unfold wd; omega
  unfold wv; rw [e0, e1, e2, e3]
theorem and_mant (b : Nat) (h : b < 2 ^ 32) : bits .and .u32 (b : Int) 8388607 = ((b % 2 ^ 23 : Nat) : Int) := by
  have := u32_and_nat b 8388607 (by omega) (by decide)
  rw [show (8388607 : Nat) = 2 ^ 23 - 1 from rfl, Nat.and_two_pow_sub_one_eq_mod] at this
  exact this
theorem and_pow (b k : Nat) : b &&& 2 ^ k = b / 2 ^ k % 2 * 2 ^ k := by
  apply Nat.eq_of_testBit_eq; intro i
  rw [Nat.testBit_and, Nat.testBit_two_pow, Nat.mul_comm, Nat.testBit_two_pow_mul]
  by_cases hi : k = i
  · subst hi
    rw [decide_eq_true rfl, Bool.and_true, decide_eq_true (Nat.le_refl _), Bool.true_and, Nat.sub_self, Nat.testBit_zero, Nat.mod_mod, Nat.testBit_eq_decide_div_mod_eq]
  · rw [decide_eq_false hi, Bool.and_false]
    by_cases h2 : k ≤ i
    · have : (b / 2 ^ k % 2).testBit (i - k) = false := Nat.testBit_lt_two_pow (Nat.lt_of_lt_of_le (Nat.mod_lt _ (by decide)) (Nat.le_trans (by decide : 2 ≤ 2 ^ 1) (Nat.pow_le_pow_right (by decide) (by omega))))
      rw [this, Bool.and_false]
    · rw [decide_eq_false h2, Bool.false_and]
theorem and_sign (b : Nat) (h : b < 2 ^ 32) : bits .and .u32 (b : Int) 8388608 = ((b / 2 ^ 23 % 2 * 8388608 : Nat) : Int) := by
  have := u32_and_nat b 8388608 (by omega) (by decide)
  rw [show b &&& 8388608 = b / 2 ^ 23 % 2 * 8388608 from and_pow b 23] at this
  exact this
theorem sub_le_blen {m k : Nat} (h : ¬ 256 < blen m + k) : m * 2 ^ k < W256 := by
  have h1 := (blen_le m (256 - k)).1 (by omega)
  rw [W256_eq, show (256 : Nat) = (256 - k) + k from by omega, Nat.pow_add]
  exact Nat.mul_lt_mul_of_pos_right h1 (Nat.two_pow_pos k)
theorem tgt_lt (b : Nat) : tgt b < W256 := by
  unfold tgt
  split
  · exact W_pos
  · split
    · refine Nat.lt_of_le_of_lt (Nat.div_le_self _ _) (Nat.lt_trans (Nat.mod_lt _ (Nat.two_pow_pos _)) ?_)
      rw [W256_eq]; exact Nat.pow_lt_pow_right (by decide) (by decide)
    · split
      · exact W_pos
      · rename_i h; exact sub_le_blen h
/-- the bits of a number: its highest bytes, and how many there are -/
def cN (t : Nat) : Nat := (blen t + 7) / 8
def cM (t : Nat) : Nat := if cN t < 3 then t * 2 ^ (8 * (3 - cN t)) else t / 2 ^ (8 * (cN t - 3))
def cpt (t : Nat) : Nat := if 2 ^ 23 ≤ cM t then (cN t + 1) * 2 ^ 24 + cM t / 2 ^ 8 else cN t * 2 ^ 24 + cM t
theorem lt_blen (t : Nat) : t < 2 ^ blen t := (blen_le t (blen t)).1 (Nat.le_refl _)
theorem le_blen {t : Nat} (h : t ≠ 0) : 2 ^ (blen t - 1) ≤ t := by
  apply Nat.le_of_not_lt
  intro hl
  have := (blen_le t (blen t - 1)).2 hl
  have h0 : blen t ≠ 0 := fun e => h (by have := (blen_le t 0).1 (by omega); omega)
  omega
theorem cM_lt (t : Nat) : cM t < 2 ^ 24 := by
  have h := lt_blen t
  have hn : blen t ≤ 8 * cN t := by unfold cN; omega
  have h2 : t < 2 ^ (8 * cN t) := Nat.lt_of_lt_of_le h (Nat.pow_le_pow_right (by decide) hn)
  unfold cM
  split
  · rename_i h3
    have e : (2 : Nat) ^ 24 = 2 ^ (8 * cN t) * 2 ^ (8 * (3 - cN t)) := by rw [← Nat.pow_add]; congr 1; omega
    rw [e]
    exact Nat.mul_lt_mul_of_pos_right h2 (Nat.two_pow_pos _)
  · rename_i h3
    rw [Nat.div_lt_iff_lt_mul (Nat.two_pow_pos _), ← Nat.pow_add, show 24 + 8 * (cN t - 3) = 8 * cN t from by omega]
    exact h2
theorem cN_le {t : Nat} (h : t < W256) : cN t ≤ 32 := by
  have := blen_lt t 256 (by rw [W256_eq] at h; exact h)
  unfold cN; omega
theorem cpt_lt {t : Nat} (h : t < W256) : cpt t < 2 ^ 32 := by
  have h1 := cM_lt t
  have h2 := cN_le h
  unfold cpt; split <;> omega
theorem cpt_zero : cpt 0 = 0 := rfl
theorem blen_mul (m k : Nat) (h : m ≠ 0) : blen (m * 2 ^ k) = blen m + k := by
  have := blen_div (m * 2 ^ k) k (by rw [Nat.mul_div_cancel _ (Nat.two_pow_pos k)]; omega)
  rw [Nat.mul_div_cancel _ (Nat.two_pow_pos k)] at this; omega
theorem blen_eq {t k : Nat} (h1 : 2 ^ k ≤ t) (h2 : t < 2 ^ (k + 1)) : blen t = k + 1 := by
  have a := (blen_le t (k + 1)).2 h2
  have b : ¬ blen t ≤ k := fun h => by have := (blen_le t k).1 h; omega
  omega
/-- the target of the bits of a number: its highest bits -/
theorem tgt_parts (n m : Nat) (hm : m < 2 ^ 23) : tgt (n * 2 ^ 24 + m) = if n < 3 then m / 2 ^ (8 * (3 - n)) else if 256 < blen m + 8 * (n - 3) then 0 else m * 2 ^ (8 * (n - 3)) := by
  unfold tgt
  have e1 : (n * 2 ^ 24 + m) / 2 ^ 23 % 2 = 0 := by omega
  have e2 : (n * 2 ^ 24 + m) / 2 ^ 24 = n := by omega
  have e3 : (n * 2 ^ 24 + m) % 2 ^ 23 = m := by omega
  rw [e1, e2, e3, if_neg (by decide)]
theorem cut_pow (t k : Nat) : t / 2 ^ k * 2 ^ k ≤ t := Nat.div_mul_le_self t _
end Go.Proofs.Ytacgcaebolmpfaa
