/- The walks of layer 4's Compact, the program's and the reference's. -/
import Derived.Test.YtacgcaebolmpfaaTgtRef
namespace Go.Proofs.Ytacgcaebolmpfaa
open Go.RowKit
set_option linter.unusedSimpArgs false

theorem or_bits24 (n m : Nat) (hn : n < 256) (hm : m < 2 ^ 24) : bits .or .u32 ((n : Int) * 16777216) (m : Int) = ((n * 2 ^ 24 + m : Nat) : Int) := by
  have h := u32_or_nat (n * 16777216) m (by omega) (by omega)
  rw [Int.natCast_mul] at h
  rw [show ((n : Int) * 16777216) = (n : Int) * ((16777216 : Nat) : Int) from rfl, h]
  congr 1
  rw [show n * 2 ^ 24 + m = 2 ^ 24 * n + m from by omega, Nat.two_pow_add_eq_or_of_lt hm, Nat.mul_comm]
theorem or_bits24' (n m : Nat) (hn : n < 256) (hm : m < 2 ^ 24) : bits .or .u32 (m : Int) ((n : Int) * 16777216) = ((n * 2 ^ 24 + m : Nat) : Int) := by
  have h := u32_or_nat m (n * 16777216) (by omega) (by omega)
  rw [Int.natCast_mul] at h
  rw [show ((n : Int) * 16777216) = (n : Int) * ((16777216 : Nat) : Int) from rfl, h]
  congr 1
  rw [show n * 2 ^ 24 + m = 2 ^ 24 * n + m from by omega, Nat.two_pow_add_eq_or_of_lt hm, Nat.mul_comm, Nat.or_comm]
theorem cN_lt {t : Nat} (h : cN t < 3) : t < 2 ^ 16 := by
  have h1 := lt_blen t
  exact Nat.lt_of_lt_of_le h1 (Nat.pow_le_pow_right (by decide) (by unfold cN at h; omega))
theorem cM_high {t : Nat} (h : ¬ cN t < 3) : wd (t / 2 ^ (8 * (cN t - 3))) 0 = (cM t : Int) := by
  have h1 := cM_lt t
  unfold cM at h1 ⊢
  rw [if_neg h] at h1 ⊢
  generalize t / 2 ^ (8 * (cN t - 3)) = z at *
  unfold wd
  rw [Nat.mul_zero, Nat.pow_zero, Nat.div_one]; omega
theorem cM_low {t : Nat} (h : cN t < 3) : IntKind.u64.wrap (wd t 0 * 2 ^ (8 * (3 - cN t))) = (cM t : Int) := by
  have h1 := cM_lt t
  have h2 := cN_lt h
  unfold cM at h1 ⊢
  rw [if_pos h] at h1 ⊢
  have e : wd t 0 = (t : Int) := by unfold wd; omega
  rw [e, ← u64_small (t * 2 ^ (8 * (3 - cN t))) (by omega)]
  congr 1
theorem cM_low3 {t : Nat} (h : cN t ≤ 3) : IntKind.u64.wrap (wd t 0 * 2 ^ (8 * (3 - cN t))) = (cM t : Int) := by
  by_cases h3 : cN t < 3
  · exact cM_low h3
  · have h1 := cM_lt t
    unfold cM at h1 ⊢
    rw [if_neg h3, show cN t - 3 = 0 from by omega, Nat.mul_zero, Nat.pow_zero, Nat.div_one] at h1 ⊢
    rw [show 3 - cN t = 0 from by omega, Nat.mul_zero, Int.pow_zero, Int.mul_one]
    have e : wd t 0 = (t : Int) := by unfold wd; omega
    rw [e, u64_small _ (by omega)]
theorem and_sign64 (b : Nat) (h : b < 2 ^ 32) : bits .and .u64 (b : Int) 8388608 = ((b / 2 ^ 23 % 2 * 8388608 : Nat) : Int) := by
  have := u64_and_nat b 8388608 (by omega) (by decide)
  rw [show b &&& 8388608 = b / 2 ^ 23 % 2 * 8388608 from and_pow b 23] at this
  exact this
theorem cpt_def (t : Nat) : cpt t = if 2 ^ 23 ≤ cM t then (cN t + 1) * 2 ^ 24 + cM t / 2 ^ 8 else cN t * 2 ^ 24 + cM t := rfl
theorem windex0 (x : Nat) (w : World) : (Instr.index 25 (.agg #[.int .u64 (wd x 0), .int .u64 (wd x 1), .int .u64 (wd x 2), .int .u64 (wd x 3)]) (.int .i64 0)).run Try.prog w = .ok (.int .u64 (wd x 0)) w := wix x 0 (by decide) w

set_option maxRecDepth 100000 in
set_option maxHeartbeats 800000 in
theorem wcompact (t : Nat) (w : World) (ht : t < W256) :
    Calls Try.prog 13 #[wv t] w fun e w' => e = .returned (.int .u32 (cpt t : Int)) ∧ Below w.heap.size w w' := by
  have P0 := Lib.hid (fun w => wbits t w ht)
  have hb := blen_lt t 256 (by rw [W256_eq] at ht; exact ht)
  have x3 : ((blen t : Int) + 7) / 8 = (cN t : Int) := by unfold cN; omega
  have hn := cN_le ht
  have hm := cM_lt t
  have hC := Lib.hid (cpt_def t)
  have L := (St.refl w).new (wcs t) 25
  by_cases h3 : cN t < 3
  · have hl := cM_low h3
    have P1 := Lib.hid (fun w => wright t (8 * ((cN t : Int) - 3)) w ht)
    have xi := windex0 (t / 2 ^ clampN (8 * ((cN t : Int) - 3)))
    generalize cM t = m at *
    generalize cN t = n at *
    generalize t / 2 ^ clampN (8 * ((n : Int) - 3)) = r at *
    go_enter Try.func13, Try.ntmps13
    go_wp2_with fail
    refine (P0.out _).mono ?_
    rintro e' w1 ⟨rfl, hw1⟩
    replace L := L.call hw1
    clear hw1
    have T := L.at (b := w.heap.size) (c := wcs t) (t := 25) (by simp)
    have t1 := T.cell
    go_wp2_with fail
    refine (P1.out _).mono ?_
    rintro e' w2 ⟨rfl, hw2⟩
    replace L := L.call hw2
    clear hw2 T t1
    have T := L.at (b := w.heap.size) (c := wcs t) (t := 25) (by simp)
    have t1 := T.cell
    go_upto_region 5 with fail
    rw [hl]
    clear hl T t1 xi P1
    by_cases hs : 2 ^ 23 ≤ m
    · have HC := Lib.hid (hC.out.trans (if_pos hs))
      have o1 : bits .or .u32 (((n : Int) + 1) * 16777216) ((m : Int) / 256) = (((n + 1) * 2 ^ 24 + m / 2 ^ 8 : Nat) : Int) := by
        have h := or_bits24 (n + 1) (m / 2 ^ 8) (by omega) (by omega)
        rw [Int.natCast_add n 1, Int.natCast_ediv] at h
        exact h
      have hs2 : (8388608 : Int) ≤ m := by omega
      skip
      go_wp2
      go_ret
      exact ⟨congrArg (fun z => Ending.returned (.int .u32 z)) (by rw [HC.out]; omega), L.below⟩
    · have HC := Lib.hid (hC.out.trans (if_neg hs))
      have o1 := or_bits24 n m (by omega) hm
      have hs2 : ¬ (8388608 : Int) ≤ m := by omega
      skip
      go_wp2
      go_ret
      exact ⟨congrArg (fun z => Ending.returned (.int .u32 z)) (by rw [HC.out]; omega), L.below⟩
  · have hl := cM_high h3
    have P1 := Lib.hid (fun w => wright t (8 * ((cN t : Int) - 3)) w ht)
    have hcl : clampN (8 * ((cN t : Int) - 3)) = 8 * (cN t - 3) := by unfold clampN; omega
    have p1 := P1.out
    rw [hcl] at p1
    have xi := fun w => (windex0 (t / 2 ^ (8 * (cN t - 3))) w).trans (congrArg (fun z => Result.ok (Value.int .u64 z) w) hl)
    generalize cM t = m at *
    generalize cN t = n at *
    generalize t / 2 ^ (8 * (n - 3)) = r at *
    replace P1 := Lib.hid p1
    clear p1 hcl hl
    go_enter Try.func13, Try.ntmps13
    go_wp2_with fail
    refine (P0.out _).mono ?_
    rintro e' w1 ⟨rfl, hw1⟩
    replace L := L.call hw1
    clear hw1
    have T := L.at (b := w.heap.size) (c := wcs t) (t := 25) (by simp)
    have t1 := T.cell
    go_wp2_with fail
    refine (P1.out _).mono ?_
    rintro e' w2 ⟨rfl, hw2⟩
    replace L := L.call hw2
    clear hw2 T t1
    go_upto_region 5 with fail
    clear xi P1
    by_cases hs : 2 ^ 23 ≤ m
    · have HC := Lib.hid (hC.out.trans (if_pos hs))
      have o1 : bits .or .u32 (((n : Int) + 1) * 16777216) ((m : Int) / 256) = (((n + 1) * 2 ^ 24 + m / 2 ^ 8 : Nat) : Int) := by
        have h := or_bits24 (n + 1) (m / 2 ^ 8) (by omega) (by omega)
        rw [Int.natCast_add n 1, Int.natCast_ediv] at h
        exact h
      have hs2 : (8388608 : Int) ≤ m := by omega
      skip
      go_wp2
      go_ret
      exact ⟨congrArg (fun z => Ending.returned (.int .u32 z)) (by rw [HC.out]; omega), L.below⟩
    · have HC := Lib.hid (hC.out.trans (if_neg hs))
      have o1 := or_bits24 n m (by omega) hm
      have hs2 : ¬ (8388608 : Int) ≤ m := by omega
      skip
      go_wp2
      go_ret
      exact ⟨congrArg (fun z => Ending.returned (.int .u32 z)) (by rw [HC.out]; omega), L.below⟩

set_option maxRecDepth 100000 in
set_option maxHeartbeats 800000 in
theorem rcompact (t : Nat) (w : World) (ht : t < W256) :
    Calls Try.prog 20 #[wv t] w fun e w' => e = .returned (.int .u32 (cpt t : Int)) ∧ Below w.heap.size w w' := by
  have P0 := Lib.hid (fun w => rbits t w ht)
  have hb := blen_lt t 256 (by rw [W256_eq] at ht; exact ht)
  have x3 : ((blen t : Int) + 7) / 8 = (cN t : Int) := by unfold cN; omega
  have hn := cN_le ht
  have hm := cM_lt t
  have hC := Lib.hid (cpt_def t)
  have L := (St.refl w).new (wcs t) 25
  have x5 := and_sign64 (cM t) (Nat.lt_trans hm (by decide))
  by_cases h3 : cN t ≤ 3
  · have hl := cM_low3 h3
    generalize cM t = m at *
    generalize cN t = n at *
    go_enter Try.func20, Try.ntmps20
    go_wp2_with fail
    refine (P0.out _).mono ?_
    rintro e' w1 ⟨rfl, hw1⟩
    replace L := L.call hw1
    clear hw1
    have T := L.at (b := w.heap.size) (c := wcs t) (t := 25) (by simp)
    have t1 := T.cell
    go_upto_region 6 with fail
    rw [hl]
    clear hl T t1
    by_cases hs : 2 ^ 23 ≤ m
    · have HC := Lib.hid (hC.out.trans (if_pos hs))
      have o1 : bits .or .u32 ((m : Int) / 256) (((n : Int) + 1) * 16777216) = (((n + 1) * 2 ^ 24 + m / 2 ^ 8 : Nat) : Int) := by
        have h := or_bits24' (n + 1) (m / 2 ^ 8) (by omega) (by omega)
        rw [Int.natCast_add n 1, Int.natCast_ediv] at h
        exact h
      have hs2 : (8388608 : Int) ≤ m := by omega
      rw [show ((m / 2 ^ 23 % 2 * 8388608 : Nat) : Int) = 8388608 from by omega] at x5
      go_wp2
      go_ret
      exact ⟨congrArg (fun z => Ending.returned (.int .u32 z)) (by rw [HC.out]; omega), L.below⟩
    · have HC := Lib.hid (hC.out.trans (if_neg hs))
      have o1 := or_bits24' n m (by omega) hm
      have hs2 : ¬ (8388608 : Int) ≤ m := by omega
      rw [show ((m / 2 ^ 23 % 2 * 8388608 : Nat) : Int) = 0 from by omega] at x5
      go_wp2
      go_ret
      exact ⟨congrArg (fun z => Ending.returned (.int .u32 z)) (by rw [HC.out]; omega), L.below⟩
  · have hl := cM_high (t := t) (by omega)
    have P1 := Lib.hid (fun w => rright t (8 * ((cN t : Int) - 3)) w ht)
    have hcl : clampN (8 * ((cN t : Int) - 3)) = 8 * (cN t - 3) := by unfold clampN; omega
    have p1 := P1.out
    rw [hcl] at p1
    have xi := fun w => (windex0 (t / 2 ^ (8 * (cN t - 3))) w).trans (congrArg (fun z => Result.ok (Value.int .u64 z) w) hl)
    generalize cM t = m at *
    generalize cN t = n at *
    generalize t / 2 ^ (8 * (n - 3)) = r at *
    replace P1 := Lib.hid p1
    clear p1 hcl hl
    go_enter Try.func20, Try.ntmps20
    go_wp2_with fail
    refine (P0.out _).mono ?_
    rintro e' w1 ⟨rfl, hw1⟩
    replace L := L.call hw1
    clear hw1
    have T := L.at (b := w.heap.size) (c := wcs t) (t := 25) (by simp)
    have t1 := T.cell
    go_wp2_with fail
    refine (P1.out _).mono ?_
    rintro e' w2 ⟨rfl, hw2⟩
    replace L := L.call hw2
    clear hw2 T t1
    go_upto_region 6 with fail
    clear xi P1
    by_cases hs : 2 ^ 23 ≤ m
    · have HC := Lib.hid (hC.out.trans (if_pos hs))
      have o1 : bits .or .u32 ((m : Int) / 256) (((n : Int) + 1) * 16777216) = (((n + 1) * 2 ^ 24 + m / 2 ^ 8 : Nat) : Int) := by
        have h := or_bits24' (n + 1) (m / 2 ^ 8) (by omega) (by omega)
        rw [Int.natCast_add n 1, Int.natCast_ediv] at h
        exact h
      have hs2 : (8388608 : Int) ≤ m := by omega
      rw [show ((m / 2 ^ 23 % 2 * 8388608 : Nat) : Int) = 8388608 from by omega] at x5
      go_wp2
      go_ret
      exact ⟨congrArg (fun z => Ending.returned (.int .u32 z)) (by rw [HC.out]; omega), L.below⟩
    · have HC := Lib.hid (hC.out.trans (if_neg hs))
      have o1 := or_bits24' n m (by omega) hm
      have hs2 : ¬ (8388608 : Int) ≤ m := by omega
      rw [show ((m / 2 ^ 23 % 2 * 8388608 : Nat) : Int) = 0 from by omega] at x5
      go_wp2
      go_ret
      exact ⟨congrArg (fun z => Ending.returned (.int .u32 z)) (by rw [HC.out]; omega), L.below⟩
end Go.Proofs.Ytacgcaebolmpfaa
