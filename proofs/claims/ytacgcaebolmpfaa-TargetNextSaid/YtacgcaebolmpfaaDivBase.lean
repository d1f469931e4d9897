/- Plain facts on division by shifting. -/
import Derived.Test.YtacgcaebolmpfaaBits
namespace Go.Proofs.Ytacgcaebolmpfaa

/-- a step of the program's division in which the shifted divisor is taken away -/
theorem div_yes (a0 b q x n : Nat) (h : q * b + x = a0) (hx : b * 2 ^ n ≤ x) : (q + 2 ^ n) * b + (x - b * 2 ^ n) = a0 := by
  rw [Nat.add_mul, Nat.mul_comm (2 ^ n) b]; omega
theorem div_yes_lt (b x n : Nat) (h : x < b * 2 ^ (n + 1)) : x - b * 2 ^ n < b * 2 ^ n ∨ b * 2 ^ n ≤ x ∧ x - b * 2 ^ n < b * 2 ^ n ∨ x < b * 2 ^ n := by
  have e : b * 2 ^ (n + 1) = b * 2 ^ n + b * 2 ^ n := by rw [Nat.pow_succ, ← Nat.mul_assoc]; omega
  omega
theorem div_end (a0 b q x : Nat) (h : q * b + x = a0) (hx : x < b) : q = a0 / b ∧ x = a0 % b := by
  subst h
  have hb : 0 < b := by omega
  constructor
  · rw [Nat.add_comm, Nat.add_mul_div_right _ _ hb, Nat.div_eq_of_lt hx, Nat.zero_add]
  · rw [Nat.add_comm, Nat.add_mul_mod_self_right, Nat.mod_eq_of_lt hx]
/-- the divisor, shifted to where it fits, is a number of four words -/
theorem div_part (a0 b n : Nat) (ha : a0 < 2 ^ 256) (h : n + blen b ≤ blen a0) : b * 2 ^ n < 2 ^ 256 := by
  have h1 : b < 2 ^ blen b := (blen_le b _).1 (Nat.le_refl _)
  have h2 : blen a0 ≤ 256 := (blen_le a0 256).2 ha
  have h3 : b * 2 ^ n < 2 ^ blen b * 2 ^ n := Nat.mul_lt_mul_of_pos_right h1 (Nat.two_pow_pos n)
  rw [← Nat.pow_add] at h3
  exact Nat.lt_of_lt_of_le h3 (Nat.pow_le_pow_right (by decide) (by omega))
theorem div_first (a0 b n : Nat) (hb : b ≠ 0) (h : blen a0 ≤ n + blen b) : a0 < b * 2 ^ (n + 1) := by
  have h1 : a0 < 2 ^ blen a0 := (blen_le a0 _).1 (Nat.le_refl _)
  have h2 : 2 ^ (blen b - 1) ≤ b := by
    rcases Nat.lt_or_ge b (2 ^ (blen b - 1)) with h' | h'
    · have := (blen_le b _).2 h'
      have : blen b ≠ 0 := by unfold blen; rw [if_neg hb]; omega
      omega
    · exact h'
  have h3 : blen b ≠ 0 := by unfold blen; rw [if_neg hb]; omega
  have h4 : 2 ^ (blen b - 1) * 2 ^ (n + 1) ≤ b * 2 ^ (n + 1) := Nat.mul_le_mul_right _ h2
  rw [← Nat.pow_add] at h4
  refine Nat.lt_of_lt_of_le h1 (Nat.le_trans (Nat.pow_le_pow_right (by decide) (by omega)) h4)
theorem div_small (a0 b : Nat) (h : blen a0 < blen b) : a0 < b := by
  have h1 : a0 < 2 ^ blen a0 := (blen_le a0 _).1 (Nat.le_refl _)
  rcases Nat.lt_or_ge a0 b with h' | h'
  · exact h'
  · have := (blen_le b (blen a0)).2 (Nat.lt_of_le_of_lt h' h1); omega
/-- a step of the reference's division -/
theorem rdiv_step (a b k : Nat) (hb : 0 < b) : a / 2 ^ k = 2 * (a / 2 ^ (k + 1)) + a / 2 ^ k % 2 := by
  rw [Nat.pow_succ, ← Nat.div_div_eq_div_mul]; have := hb; omega
theorem add_high (q n : Nat) (h : q % 2 ^ (n + 1) = 0) : q + 2 ^ n = q ||| 2 ^ n := by
  obtain ⟨m, rfl⟩ := Nat.dvd_of_mod_eq_zero h
  exact Nat.two_pow_add_eq_or_of_lt (Nat.pow_lt_pow_right (by decide) (Nat.lt_succ_self n)) m
theorem or_high (q n : Nat) (h : q % 2 ^ (n + 1) = 0) : bits .or .u64 (wd q (n / 64)) (IntKind.u64.wrap (2 ^ (n % 64))) = wd (q + 2 ^ n) (n / 64) := by
  have hp : 2 ^ (n % 64) < 2 ^ 64 := Nat.pow_lt_pow_right (by decide) (Nat.mod_lt _ (by decide))
  rw [show (2 : Int) ^ (n % 64) = ((2 ^ (n % 64) : Nat) : Int) from by simp, u64_small _ hp, wd_eq, or_u64 _ _ (wn_lt _ _) hp, wd_eq, add_high q n h, wn_or, wn_pow, if_pos rfl]
theorem cells_high (q n : Nat) (h : q % 2 ^ (n + 1) = 0) (hn : n < 256) : (wcs q).setIfInBounds (n / 64) (.int .u64 (wd (q + 2 ^ n) (n / 64))) = wcs (q + 2 ^ n) := by
  have far : ∀ k, k ≠ n / 64 → wd (q + 2 ^ n) k = wd q k := fun k hk => by rw [wd_eq, wd_eq, add_high q n h, wn_or, wn_pow, if_neg hk, Nat.or_zero]
  rcases (by omega : n / 64 = 0 ∨ n / 64 = 1 ∨ n / 64 = 2 ∨ n / 64 = 3) with h | h | h | h <;> rw [h] at far ⊢
  · rw [wcs, wcs, far 1 (by decide), far 2 (by decide), far 3 (by decide)]; rfl
  · rw [wcs, wcs, far 0 (by decide), far 2 (by decide), far 3 (by decide)]; rfl
  · rw [wcs, wcs, far 0 (by decide), far 1 (by decide), far 3 (by decide)]; rfl
  · rw [wcs, wcs, far 0 (by decide), far 1 (by decide), far 2 (by decide)]; rfl
theorem mod_high (q n : Nat) (h : q % 2 ^ (n + 1) = 0) : (q + 2 ^ n) % 2 ^ n = 0 ∧ q % 2 ^ n = 0 := by
  obtain ⟨m, rfl⟩ := Nat.dvd_of_mod_eq_zero h
  rw [Nat.pow_succ, Nat.mul_assoc]
  simp
end Go.Proofs.Ytacgcaebolmpfaa
