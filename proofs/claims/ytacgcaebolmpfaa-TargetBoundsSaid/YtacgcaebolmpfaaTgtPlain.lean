/- Plain facts: the target of the bits of a number. -/
import Derived.Test.YtacgcaebolmpfaaTgtBase
namespace Go.Proofs.Ytacgcaebolmpfaa
open Go.RowKit

def cutK (t : Nat) : Nat := if cN t < 3 then 0 else if 2 ^ 23 ≤ cM t then 8 * (cN t - 2) else 8 * (cN t - 3)
theorem cN_bounds {t : Nat} (h : t ≠ 0) : 8 * (cN t - 1) < blen t ∧ blen t ≤ 8 * cN t ∧ 0 < cN t := by
  have h0 : blen t ≠ 0 := fun e => h (by have := (blen_le t 0).1 (by omega); omega)
  unfold cN; omega
theorem cut_pos {t k : Nat} (hk : k < blen t) : 0 < t / 2 ^ k := by
  by_cases h : t = 0
  · subst h; simp [blen] at hk
  · have h1 := le_blen h
    have h2 : 2 ^ k ≤ t := Nat.le_trans (Nat.pow_le_pow_right (by decide) (by omega)) h1
    exact (Nat.div_pos_iff).2 ⟨Nat.two_pow_pos k, h2⟩
theorem cut_blen {t k : Nat} (hk : k < blen t) : blen (t / 2 ^ k * 2 ^ k) = blen t := by
  have h := cut_pos hk
  rw [blen_mul _ _ (by omega), blen_div t k h]; omega
theorem cutK_lt {t : Nat} (h : t ≠ 0) : cutK t < blen t := by
  obtain ⟨h1, h2, h3⟩ := cN_bounds h
  unfold cutK
  split
  · omega
  · split <;> omega
theorem tgt_cut {t : Nat} (h : t ≠ 0) (ht : t < W256) : tgt (cpt t) = t / 2 ^ cutK t * 2 ^ cutK t := by
  obtain ⟨h1, h2, h3⟩ := cN_bounds h
  have h4 := cN_le ht
  have hM := cM_lt t
  unfold cpt cutK
  by_cases hs : 2 ^ 23 ≤ cM t
  · rw [if_pos hs, tgt_parts _ _ (by omega)]
    by_cases hn : cN t < 3
    · rw [if_pos hn, Nat.pow_zero, Nat.div_one, Nat.mul_one]
      have hm : cM t = t * 2 ^ (8 * (3 - cN t)) := by unfold cM; rw [if_pos hn]
      rw [hm]
      rcases (by omega : cN t = 1 ∨ cN t = 2) with e | e
      · rw [e, if_pos (by decide)]; omega
      · rw [e, if_neg (by decide), if_neg]
        · omega
        · have := (blen_le (t * 2 ^ (8 * (3 - 2)) / 2 ^ 8) 16).2 (by rw [hm, e] at hM; omega)
          omega
    · rw [if_neg hn, if_neg (by omega), if_pos hs]
      have hm : cM t = t / 2 ^ (8 * (cN t - 3)) := by unfold cM; rw [if_neg hn]
      have hb := (blen_le (cM t / 2 ^ 8) 16).2 (by omega)
      rw [if_neg (by omega), hm, Nat.div_div_eq_div_mul, ← Nat.pow_add]
      rw [show 8 * (cN t - 3) + 8 = 8 * (cN t - 2) from by omega, show cN t + 1 - 3 = cN t - 2 from by omega]
  · rw [if_neg hs, tgt_parts _ _ (by omega), if_neg hs]
    by_cases hn : cN t < 3
    · rw [if_pos hn, if_pos hn, Nat.pow_zero, Nat.div_one, Nat.mul_one]
      have hm : cM t = t * 2 ^ (8 * (3 - cN t)) := by unfold cM; rw [if_pos hn]
      rw [hm, Nat.mul_div_cancel _ (Nat.two_pow_pos _)]
    · rw [if_neg hn, if_neg hn]
      have hm : cM t = t / 2 ^ (8 * (cN t - 3)) := by unfold cM; rw [if_neg hn]
      have hb := (blen_le (cM t) 23).2 (by omega)
      rw [if_neg (by omega), hm]
/-- never more than the number, and as long -/
theorem tgt_cpt_le {t : Nat} (h : t ≠ 0) (ht : t < W256) : tgt (cpt t) ≤ t ∧ blen (tgt (cpt t)) = blen t ∧ tgt (cpt t) ≠ 0 := by
  have hk := cutK_lt h
  have hp := cut_pos hk
  rw [tgt_cut h ht]
  exact ⟨cut_pow t _, cut_blen hk, Nat.pos_iff_ne_zero.1 (Nat.mul_pos hp (Nat.two_pow_pos _))⟩
theorem dvd_cut {t k j : Nat} (h : 2 ^ j ∣ t) (hk : k ≤ j) : t / 2 ^ k * 2 ^ k = t := Nat.div_mul_cancel (Nat.dvd_trans (Nat.pow_dvd_pow 2 hk) h)
/-- a target that bits say is said by its bits -/
theorem tgt_back (b : Nat) (h : tgt b ≠ 0) : tgt (cpt (tgt b)) = tgt b := by
  have ht := tgt_lt b
  rw [tgt_cut h ht]
  obtain ⟨h1, h2, h3⟩ := cN_bounds h
  have hm : b % 2 ^ 23 < 2 ^ 23 := Nat.mod_lt _ (by decide)
  have hd : tgt b = tgt b := rfl
  rw [show tgt b = if b / 2 ^ 23 % 2 = 1 then 0 else if b / 2 ^ 24 < 3 then b % 2 ^ 23 / 2 ^ (8 * (3 - b / 2 ^ 24))
    else if 256 < blen (b % 2 ^ 23) + 8 * (b / 2 ^ 24 - 3) then 0 else b % 2 ^ 23 * 2 ^ (8 * (b / 2 ^ 24 - 3)) from rfl] at hd
  generalize hT : tgt b = t at *
  clear hd
  unfold tgt at hT
  by_cases c1 : b / 2 ^ 23 % 2 = 1
  · rw [if_pos c1] at hT; exact absurd hT.symm h
  · rw [if_neg c1] at hT
    generalize b % 2 ^ 23 = m at *
    generalize b / 2 ^ 24 = e at *
    by_cases c2 : e < 3
    · rw [if_pos c2] at hT
      have hl : t < 2 ^ 15 := by
        rw [← hT, Nat.div_lt_iff_lt_mul (Nat.two_pow_pos _), ← Nat.pow_add]
        exact Nat.lt_of_lt_of_le hm (Nat.pow_le_pow_right (by decide) (by omega))
      have := (blen_le t 15).2 hl
      unfold cutK
      rw [if_pos (by omega), Nat.pow_zero, Nat.div_one, Nat.mul_one]
    · rw [if_neg c2] at hT
      by_cases c3 : 256 < blen m + 8 * (e - 3)
      · rw [if_pos c3] at hT; exact absurd hT.symm h
      · rw [if_neg c3] at hT
        have hm0 : m ≠ 0 := fun h0 => h (by rw [← hT, h0, Nat.zero_mul])
        have hl : blen t = blen m + 8 * (e - 3) := by rw [← hT]; exact blen_mul _ _ hm0
        have hbm := (blen_le m 23).2 hm
        refine dvd_cut (j := 8 * (e - 3)) ⟨m, by rw [← hT, Nat.mul_comm]⟩ ?_
        unfold cutK
        split
        · omega
        · split
          · rename_i hs
            by_cases c4 : cN t = e
            · have hM : cM t = m := by
                unfold cM; rw [if_neg (by omega), c4, ← hT, Nat.mul_div_cancel _ (Nat.two_pow_pos _)]
              omega
            · omega
          · omega
theorem wrk_mono {t u : Nat} (h : t ≤ u) (hu : u < W256) : (W256 - 1 - u) / (u + 1) ≤ (W256 - 1 - t) / (t + 1) :=
  Nat.le_trans (Nat.div_le_div_right (by omega)) (Nat.div_le_div_left (by omega) (by omega))
end Go.Proofs.Ytacgcaebolmpfaa
