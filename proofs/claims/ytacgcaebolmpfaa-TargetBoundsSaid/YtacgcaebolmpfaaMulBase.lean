/- Plain facts on products, word by word: no program in sight. -/
import Derived.Test.YtacgcaebolmpfaaWideBase
namespace Go.Proofs.Ytacgcaebolmpfaa
open Go.RowKit

def M64 : Nat := 18446744073709551616
theorem M64_eq : M64 = 2 ^ 64 := rfl
/-- eight words -/
def c8 (n : Nat) : Array Value := ((List.range 8).map fun k => Value.int .u64 (wd n k)).toArray
theorem c8_size (n : Nat) : (c8 n).size = 8 := by simp [c8]
theorem c8_get (n k : Nat) (h : k < 8) : (c8 n)[k]? = some (.int .u64 (wd n k)) := by simp [c8, h]
theorem c8_zero : c8 0 = #[.int .u64 0, .int .u64 0, .int .u64 0, .int .u64 0, .int .u64 0, .int .u64 0, .int .u64 0, .int .u64 0] := by simp [c8, wd, List.range_succ]
/-- word j of n, taken anew -/
def setw (n j v : Nat) : Nat := n - wn n j * 2 ^ (64 * j) + v * 2 ^ (64 * j)
theorem split_word (n j : Nat) : n = n / 2 ^ (64 * (j + 1)) * 2 ^ (64 * (j + 1)) + wn n j * 2 ^ (64 * j) + n % 2 ^ (64 * j) := by
  have h1 := Nat.div_add_mod n (2 ^ (64 * j))
  have h2 := Nat.div_add_mod (n / 2 ^ (64 * j)) (2 ^ 64)
  rw [Nat.div_div_eq_div_mul, ← Nat.pow_add, show 64 * j + 64 = 64 * (j + 1) from by omega] at h2
  unfold wn
  rw [show (2 : Nat) ^ (64 * (j + 1)) = 2 ^ 64 * 2 ^ (64 * j) from by rw [← Nat.pow_add]; congr 1; omega] at *
  rw [← Nat.mul_assoc, ← Nat.add_mul, Nat.mul_comm (n / (2 ^ 64 * 2 ^ (64 * j))), h2, Nat.mul_comm]
  exact h1.symm
theorem setw_eq (n j v : Nat) : setw n j v = n / 2 ^ (64 * (j + 1)) * 2 ^ (64 * (j + 1)) + v * 2 ^ (64 * j) + n % 2 ^ (64 * j) := by
  have h := split_word n j
  unfold setw
  generalize n / 2 ^ (64 * (j + 1)) * 2 ^ (64 * (j + 1)) = A at *
  generalize n % 2 ^ (64 * j) = C at *
  generalize wn n j * 2 ^ (64 * j) = B at *
  omega
theorem wn_low (A v C j : Nat) (hv : v < 2 ^ 64) (hC : C < 2 ^ (64 * j)) (k : Nat) :
    wn (A * 2 ^ (64 * (j + 1)) + v * 2 ^ (64 * j) + C) k = if k < j then wn C k else if k = j then v else wn A (k - (j + 1)) := by
  have e0 : A * 2 ^ (64 * (j + 1)) + v * 2 ^ (64 * j) + C = 2 ^ (64 * j) * (2 ^ 64 * A + v) + C := by
    rw [show (2 : Nat) ^ (64 * (j + 1)) = 2 ^ (64 * j) * 2 ^ 64 from by rw [← Nat.pow_add]; congr 1, Nat.mul_add, Nat.mul_comm v, ← Nat.mul_assoc, Nat.mul_comm A, ← Nat.mul_assoc, Nat.mul_assoc _ A, Nat.mul_comm A, ← Nat.mul_assoc]
  have eb : ∀ i, (2 ^ (64 * j) * (2 ^ 64 * A + v) + C).testBit i = if i < 64 * j then C.testBit i else if i < 64 * j + 64 then v.testBit (i - 64 * j) else A.testBit (i - 64 * j - 64) := by
    intro i
    rw [Nat.testBit_two_pow_mul_add _ hC]
    split
    · rfl
    · rw [Nat.testBit_two_pow_mul_add _ hv]
      by_cases h : i < 64 * j + 64
      · rw [if_pos (by omega), if_pos h]
      · rw [if_neg (by omega), if_neg h]
  apply Nat.eq_of_testBit_eq; intro i
  rw [wn_bit, e0, eb]
  by_cases hi : i < 64
  · rw [decide_eq_true hi, Bool.true_and]
    by_cases h1 : k < j
    · rw [if_pos h1, if_pos (by omega), wn_bit, decide_eq_true hi, Bool.true_and]
    · rw [if_neg h1]
      by_cases h2 : k = j
      · subst h2; rw [if_pos rfl, if_neg (by omega), if_pos (by omega)]; congr 1; omega
      · rw [if_neg h2, if_neg (by omega), if_neg (by omega), wn_bit, decide_eq_true hi, Bool.true_and]; congr 1; omega
  · rw [decide_eq_false hi, Bool.false_and]
    by_cases h1 : k < j
    · rw [if_pos h1, wn_bit, decide_eq_false hi, Bool.false_and]
    · rw [if_neg h1]
      by_cases h2 : k = j
      · rw [if_pos h2]; exact (Nat.testBit_lt_two_pow (Nat.lt_of_lt_of_le hv (Nat.pow_le_pow_right (by decide) (by omega)))).symm
      · rw [if_neg h2, wn_bit, decide_eq_false hi, Bool.false_and]
theorem setw_wn (n j v : Nat) (hv : v < 2 ^ 64) (k : Nat) : wn (setw n j v) k = if k = j then v else wn n k := by
  have h := wn_low (n / 2 ^ (64 * (j + 1))) v (n % 2 ^ (64 * j)) j hv (Nat.mod_lt _ (Nat.two_pow_pos _)) k
  have h0 := wn_low (n / 2 ^ (64 * (j + 1))) (wn n j) (n % 2 ^ (64 * j)) j (wn_lt _ _) (Nat.mod_lt _ (Nat.two_pow_pos _)) k
  rw [← split_word] at h0
  rw [setw_eq, h]
  by_cases h1 : k < j
  · rw [if_pos h1, if_neg (by omega)]; rw [if_pos h1] at h0; exact h0.symm
  · rw [if_neg h1]
    by_cases h2 : k = j
    · rw [if_pos h2, if_pos h2]
    · rw [if_neg h2, if_neg h2]; rw [if_neg h1, if_neg h2] at h0; exact h0.symm
theorem setw_cells (n j v : Nat) (hv : v < 2 ^ 64) : (c8 n).setIfInBounds j (.int .u64 (v : Int)) = c8 (setw n j v) := by
  apply Array.ext
  · simp [c8_size]
  · intro i h1 h2
    rw [c8_size] at h2
    rw [Array.getElem_setIfInBounds]
    have e : ∀ n (h' : i < (c8 n).size), (c8 n)[i] = .int .u64 (wd n i) := by
      intro n h'; have := c8_get n i h2; rw [Array.getElem?_eq_getElem h'] at this; exact Option.some.inj this
    by_cases hik : j = i
    · subst hik; rw [if_pos rfl, e, wd_eq, setw_wn _ _ _ hv, if_pos rfl]
    · rw [if_neg hik, e, e, wd_eq, wd_eq, setw_wn _ _ _ hv, if_neg (by omega)]
    simpa [c8_size] using h2
/-- the number with word j taken anew, and what is above it -/
theorem setw_add (n j v : Nat) : setw n j v + wn n j * 2 ^ (64 * j) = n + v * 2 ^ (64 * j) := by
  have h := split_word n j
  have h2 := setw_eq n j v
  generalize n / 2 ^ (64 * (j + 1)) * 2 ^ (64 * (j + 1)) = A at *
  generalize n % 2 ^ (64 * j) = C at *
  omega
theorem setw_lt (n j v m : Nat) (hv : v < 2 ^ 64) (hj : j < m) (h : n < 2 ^ (64 * m)) : setw n j v < 2 ^ (64 * m) := by
  rw [setw_eq]
  have e : (2 : Nat) ^ (64 * m) = 2 ^ (64 * (m - (j + 1))) * 2 ^ (64 * (j + 1)) := by rw [← Nat.pow_add]; congr 1; omega
  have h1 : n / 2 ^ (64 * (j + 1)) < 2 ^ (64 * (m - (j + 1))) := by rw [Nat.div_lt_iff_lt_mul (Nat.two_pow_pos _), ← e]; exact h
  have h2 : n % 2 ^ (64 * j) < 2 ^ (64 * j) := Nat.mod_lt _ (Nat.two_pow_pos _)
  have h3 : v * 2 ^ (64 * j) + n % 2 ^ (64 * j) < 2 ^ (64 * (j + 1)) := by
    rw [show (2 : Nat) ^ (64 * (j + 1)) = 2 ^ 64 * 2 ^ (64 * j) from by rw [← Nat.pow_add]; congr 1; omega]
    calc v * 2 ^ (64 * j) + n % 2 ^ (64 * j) < v * 2 ^ (64 * j) + 2 ^ (64 * j) := by omega
      _ = (v + 1) * 2 ^ (64 * j) := by rw [Nat.add_mul, Nat.one_mul]
      _ ≤ 2 ^ 64 * 2 ^ (64 * j) := Nat.mul_le_mul_right _ hv
  have h4 := Nat.mul_le_mul_right (2 ^ (64 * (j + 1))) (Nat.succ_le_of_lt h1)
  rw [Nat.succ_mul, ← e] at h4
  omega
/-- what holds in the middle of a row of products -/
def MulInv (a b i k P c : Nat) : Prop := P + c * 2 ^ (64 * (i + k)) = a % 2 ^ (64 * i) * b + wn a i * 2 ^ (64 * i) * (b % 2 ^ (64 * k)) ∧ P < 2 ^ (64 * (i + 4)) ∧ c < 2 ^ 64
theorem mod_word (n k : Nat) : n % 2 ^ (64 * (k + 1)) = n % 2 ^ (64 * k) + wn n k * 2 ^ (64 * k) := by
  unfold wn
  rw [show (2 : Nat) ^ (64 * (k + 1)) = 2 ^ (64 * k) * 2 ^ 64 from by rw [← Nat.pow_add]; rfl, Nat.mod_mul, Nat.mul_comm (2 ^ (64 * k))]
theorem mul_start (a b i P : Nat) (h : P = a % 2 ^ (64 * i) * b) (hb : b < 2 ^ 256) : MulInv a b i 0 P 0 := by
  refine ⟨by rw [Nat.mul_zero 64, Nat.pow_zero, Nat.mod_one]; omega, ?_, by decide⟩
  rw [h, show (2 : Nat) ^ (64 * (i + 4)) = 2 ^ (64 * i) * 2 ^ 256 from by rw [← Nat.pow_add]; rfl]
  exact Nat.mul_lt_mul_of_lt_of_lt (Nat.mod_lt _ (Nat.two_pow_pos _)) hb
theorem mul_fin {S B M P T h l c p s1 c1 s2 c2 : Nat} (hs : S + p * B = P + s2 * B) (H1 : P + c * B = T) (e1 : s1 + c1 * M = l + c) (e2 : s2 + c2 * M = p + s1) :
    S + (h + c1 + c2) * (M * B) = T + (h * M + l) * B := by
  have kk : (h + c1 + c2) * M + s2 = h * M + l + c + p := by
    rw [Nat.add_mul, Nat.add_mul]
    generalize c1 * M = C1 at *
    generalize c2 * M = C2 at *
    generalize h * M = H at *
    omega
  have key : (h + c1 + c2) * (M * B) + s2 * B = (h * M + l) * B + c * B + p * B := by
    rw [← Nat.mul_assoc, ← Nat.add_mul, kk, Nat.add_mul, Nat.add_mul]
  generalize (h + c1 + c2) * (M * B) = X at *
  generalize (h * M + l) * B = Y at *
  generalize s2 * B = Z at *
  generalize c * B = V at *
  generalize p * B = U at *
  clear kk e1 e2
  omega
/-- one step -/
theorem mul_step {a b i k P c h l s1 c1 s2 c2 : Nat} (H : MulInv a b i k P c) (hk : k < 4) (hl : h * 2 ^ 64 + l = wn a i * wn b k)
    (e1 : s1 + c1 * 2 ^ 64 = l + c) (e2 : s2 + c2 * 2 ^ 64 = wn P (i + k) + s1) (l2 : s2 < 2 ^ 64) :
    MulInv a b i (k + 1) (setw P (i + k) s2) (h + c1 + c2) := by
  obtain ⟨H1, H2, H3⟩ := H
  have hx := wn_lt a i
  have hy := wn_lt b k
  have hp := wn_lt P (i + k)
  have hm : wn a i * wn b k ≤ (2 ^ 64 - 1) * (2 ^ 64 - 1) := Nat.mul_le_mul (by omega) (by omega)
  refine ⟨?_, setw_lt _ _ _ _ l2 (by omega) H2, ?_⟩
  · have hs := setw_add P (i + k) s2
    rw [mod_word, Nat.mul_add (wn a i * 2 ^ (64 * i)), show 64 * (i + (k + 1)) = 64 + 64 * (i + k) from by omega, Nat.pow_add 2 64]
    rw [show wn a i * 2 ^ (64 * i) * (wn b k * 2 ^ (64 * k)) = wn a i * wn b k * 2 ^ (64 * (i + k)) from by rw [show 64 * (i + k) = 64 * i + 64 * k from by omega, Nat.pow_add]; ac_rfl, ← hl]
    rw [← Nat.add_assoc, ← H1]
    exact mul_fin hs rfl e1 e2
  · omega
/-- the end of a row -/
theorem mul_row {a b i P c : Nat} (H : MulInv a b i 4 P c) (hb : b < 2 ^ 256) : setw P (i + 4) c = a % 2 ^ (64 * (i + 1)) * b := by
  obtain ⟨H1, H2, H3⟩ := H
  have h0 : wn P (i + 4) = 0 := by unfold wn; rw [Nat.div_eq_of_lt H2]
  have h := setw_add P (i + 4) c
  rw [h0, Nat.zero_mul, Nat.add_zero, H1, show 64 * 4 = 256 from rfl, Nat.mod_eq_of_lt hb] at h
  rw [h, mod_word, Nat.add_mul]
theorem mul_zero_row (a b : Nat) : 0 = a % 2 ^ (64 * 0) * b := by rw [Nat.mul_zero, Nat.pow_zero, Nat.mod_one, Nat.zero_mul]
theorem mul_last (a b P : Nat) (ha : a < 2 ^ 256) (h : P = a % 2 ^ (64 * 4) * b) : P = a * b := by rw [h, Nat.mod_eq_of_lt ha]
theorem high_zero (P : Nat) (h : P < 2 ^ 256 * 2 ^ 256) : ((List.range 4).all fun i => wd P (4 + i) == 0) = decide (P < 2 ^ 256) := by
  rw [Bool.eq_iff_iff, List.all_eq_true, decide_eq_true_eq]
  constructor
  · intro hz
    have e : P / 2 ^ 256 = 0 := by
      refine wn_ext (by rw [Nat.div_lt_iff_lt_mul (Nat.two_pow_pos _)]; exact h) (Nat.two_pow_pos _) fun k hk => ?_
      have := hz k (List.mem_range.2 hk)
      rw [beq_iff_eq, wd_eq] at this
      rw [wn_zero]
      have e2 : wn (P / 2 ^ 256) k = wn P (4 + k) := by unfold wn; rw [Nat.div_div_eq_div_mul, ← Nat.pow_add]; congr 3; omega
      omega
    exact (Nat.div_eq_zero_iff_lt (Nat.two_pow_pos _)).1 e
  · intro hlt k hk
    rw [beq_iff_eq, wd_eq]
    unfold wn
    rw [Nat.div_eq_of_lt (Nat.lt_of_lt_of_le hlt (Nat.pow_le_pow_right (by decide) (by omega)))]; rfl
theorem mul_lt512 (a b : Nat) (ha : a < W256) (hb : b < W256) : a * b < 2 ^ 256 * 2 ^ 256 := by
  rw [W256_eq] at *
  exact Nat.mul_lt_mul_of_lt_of_lt ha hb
theorem wd_W (P k : Nat) (h : k < 4) : wd (P % W256) k = wd P k := by rw [W256_eq, show (256 : Nat) = 64 * 4 from rfl, wd_mod, if_pos h]
end Go.Proofs.Ytacgcaebolmpfaa
