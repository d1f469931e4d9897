/- Bits in bytes: plain facts, no program in sight. -/
import Derived.Test.YtppcccocnmhbgaaRowV
namespace Go.Proofs.Ytppcccocnmhbgaa
open Go Go.RowKit

/-- byte i of the first k bits of l -/
def accB (l : List Bool) : Nat → Nat → Nat
  | 0, _ => 0
  | k + 1, i => if k / 8 = i ∧ l.getD k false = true then accB l k i ||| 2 ^ (7 - k % 8) else accB l k i
theorem accB_bit (l : List Bool) (k i j : Nat) : (accB l k i).testBit j = (decide (j < 8 ∧ 8 * i + (7 - j) < k) && l.getD (8 * i + (7 - j)) false) := by
  induction k with
  | zero => simp [accB]
  | succ k ih =>
    unfold accB
    by_cases h : k / 8 = i ∧ l.getD k false = true
    · rw [if_pos h, Nat.testBit_or, ih, Nat.testBit_two_pow]
      obtain ⟨h1, h2⟩ := h
      by_cases hj : 7 - k % 8 = j
      · have e : 8 * i + (7 - j) = k := by omega
        have hj8 : j < 8 := by omega
        rw [e, h2, hj]; simp [hj8]
      · rw [Bool.eq_iff_iff]; simp [hj]
        intro hj8 _
        omega
    · rw [if_neg h, ih]
      by_cases e : j < 8 ∧ 8 * i + (7 - j) = k
      · have h2 : l.getD k false = false := by
          rcases Bool.eq_false_or_eq_true (l.getD k false) with h3 | h3
          · exact absurd ⟨by omega, h3⟩ h
          · exact h3
        rw [e.2, h2]; simp
      · have : decide (j < 8 ∧ 8 * i + (7 - j) < k) = decide (j < 8 ∧ 8 * i + (7 - j) < k + 1) := by
          rw [decide_eq_decide]; omega
        rw [this]
theorem accB_lt (l : List Bool) (k i : Nat) : accB l k i < 256 := by
  have : accB l k i < 2 ^ 8 := Nat.lt_pow_two_of_testBit _ fun j hj => by
    rw [accB_bit]; simp; omega
  exact this
/-- beyond the bits that were done a byte is nought -/
theorem accB_zero (l : List Bool) (k i : Nat) (h : k ≤ 8 * i) : accB l k i = 0 := by
  apply Nat.eq_of_testBit_eq; intro j
  rw [accB_bit, Nat.zero_testBit]; simp; intro _ _; omega
theorem accB_append (l m : List Bool) (k i : Nat) (h : k ≤ l.length) : accB (l ++ m) k i = accB l k i := by
  apply Nat.eq_of_testBit_eq; intro j
  rw [accB_bit, accB_bit]
  by_cases hj : j < 8 ∧ 8 * i + (7 - j) < k
  · rw [decide_eq_true hj]; simp [List.getD, List.getElem?_append_left (show 8 * i + (7 - j) < l.length from by omega)]
  · rw [decide_eq_false hj]; rfl
/-- how many bytes so many bits take -/
def nby (n : Nat) : Nat := (n + 7) / 8
/-- the first k bits of l in the bytes of all -/
def part (l : List Bool) (k : Nat) : List Int := (List.range (nby l.length)).map fun i => (accB l k i : Int)
/-- all bits, in bytes -/
def pack (l : List Bool) : List Int := part l l.length
theorem part_length (l : List Bool) (k : Nat) : (part l k).length = nby l.length := by simp [part]
theorem pack_length (l : List Bool) : (pack l).length = nby l.length := part_length _ _
theorem part_get (l : List Bool) (k i : Nat) (h : i < nby l.length) : (part l k)[i]? = some ((accB l k i : Nat) : Int) := by simp [part, h]
theorem u8part_get (l : List Bool) (k i : Nat) (h : i < nby l.length) : (u8s (part l k))[i]? = some (.int .u8 ((accB l k i : Nat) : Int)) := by simp [u8s, part, h]
theorem part_zero (l : List Bool) : u8s (part l 0) = List.replicate (nby l.length) (Value.int .u8 0) := by
  apply List.ext_getElem?; intro i
  by_cases h : i < nby l.length
  · rw [u8part_get l 0 i h, List.getElem?_replicate, if_pos h]; rfl
  · rw [List.getElem?_eq_none (by simp [u8s, part_length]; omega), List.getElem?_replicate, if_neg h]
/-- the next bit is a nought -/
theorem part_skip (l : List Bool) (k : Nat) (h : l.getD k false = false) : part l (k + 1) = part l k := by
  unfold part; congr 1; funext i
  rw [accB, if_neg (fun hh => by rw [h] at hh; cases hh.2)]
/-- the next bit is a one -/
theorem part_one (l : List Bool) (k : Nat) (h : l.getD k false = true) : u8s (part l (k + 1)) = (u8s (part l k)).set (k / 8) (.int .u8 ((accB l k (k / 8) ||| 2 ^ (7 - k % 8) : Nat) : Int)) := by
  apply List.ext_getElem?; intro i
  by_cases hi : i < nby l.length
  · rw [u8part_get l _ i hi, List.getElem?_set]
    by_cases hk : k / 8 = i
    · subst hk
      rw [if_pos rfl, if_pos (by simpa [u8s, part_length] using hi), accB, if_pos ⟨rfl, h⟩]
    · rw [if_neg hk, u8part_get l k i hi, accB, if_neg (by simp [hk])]
  · rw [List.getElem?_eq_none (by simp [u8s, part_length]; omega), List.getElem?_eq_none (by simp [u8s, part_length]; omega)]
theorem nby_succ (n : Nat) : nby (n + 1) = if n % 8 = 0 then nby n + 1 else nby n := by unfold nby; split <;> omega
theorem div_nby (n : Nat) : n / 8 < nby (n + 1) := by unfold nby; omega
/-- a bit more: first its byte, if it is a new one -/
theorem pack_room (l : List Bool) (b : Bool) : u8s (part (l ++ [b]) l.length) = if l.length % 8 = 0 then u8s (pack l) ++ [.int .u8 0] else u8s (pack l) := by
  have hl : (l ++ [b]).length = l.length + 1 := by simp
  apply List.ext_getElem?; intro i
  by_cases hi : i < nby (l.length + 1)
  · rw [u8part_get _ _ i (by rw [hl]; exact hi), accB_append l [b] _ i (Nat.le_refl _)]
    rw [nby_succ] at hi
    by_cases h8 : l.length % 8 = 0
    · rw [if_pos h8] at hi ⊢
      by_cases he : i < nby l.length
      · rw [List.getElem?_append_left (by simpa [u8s, pack_length] using he)]
        exact (u8part_get l _ i he).symm
      · have e : i = nby l.length := by omega
        subst e
        rw [List.getElem?_append_right (by simp [u8s, pack_length]), accB_zero _ _ _ (by unfold nby; omega)]
        simp [u8s, pack_length]
    · rw [if_neg h8] at hi ⊢
      exact (u8part_get l _ i hi).symm
  · have h1 : (u8s (part (l ++ [b]) l.length))[i]? = none := List.getElem?_eq_none (by simp [u8s, part_length]; omega)
    rw [h1]; symm
    rw [nby_succ] at hi
    split
    · rename_i h; rw [if_pos h] at hi; exact List.getElem?_eq_none (by simp [u8s, pack_length]; omega)
    · rename_i h; rw [if_neg h] at hi; exact List.getElem?_eq_none (by simp [u8s, pack_length]; omega)
theorem getD_last (l : List Bool) (b : Bool) : (l ++ [b]).getD l.length false = b := by simp [List.getD]
/-- .. then the bit itself -/
theorem pack_bit (l : List Bool) (b : Bool) : u8s (pack (l ++ [b])) = (u8s (part (l ++ [b]) l.length)).set (l.length / 8) (.int .u8 ((accB l l.length (l.length / 8) ||| (b.toNat * 2 ^ (7 - l.length % 8)) : Nat) : Int)) := by
  have hl : (l ++ [b]).length = l.length + 1 := by simp
  unfold pack
  rw [hl]
  cases b with
  | true =>
    rw [part_one _ _ (getD_last l true), accB_append l _ _ _ (Nat.le_refl _), Bool.toNat_true, Nat.one_mul]
  | false =>
    rw [part_skip _ _ (getD_last l false)]
    have h : l.length / 8 < nby (l ++ [false]).length := by rw [hl]; exact div_nby _
    rw [Bool.toNat_false, Nat.zero_mul, Nat.or_zero, ← accB_append l [false] _ _ (Nat.le_refl _)]
    symm
    apply List.ext_getElem?; intro i
    rw [List.getElem?_set]
    split
    · rename_i e; subst e
      rw [if_pos (by simpa [u8s, part_length] using h), u8part_get _ _ _ h]
    · rfl
/-- the lowest bits of n, the highest of them first -/
def bitsOf (n : Nat) : Nat → List Bool
  | 0 => []
  | k + 1 => n.testBit k :: bitsOf n k
theorem bitsOf_length (n k : Nat) : (bitsOf n k).length = k := by induction k with | zero => rfl | succ k ih => simp [bitsOf, ih]
def bitsE (c : Int) : Int := if c < 0 ∨ 64 < c then 1 else 0
def bitsL (l : List Bool) (n : Nat) (c : Int) : List Bool := if c < 0 ∨ 64 < c then l else l ++ bitsOf n c.toNat
/-- n by quotient and rest -/
def riceE (n : Nat) (c : Int) : Int := if c < 0 ∨ 32 < c ∨ 65535 < n / 2 ^ c.toNat then 1 else 0
def riceL (l : List Bool) (n : Nat) (c : Int) : List Bool := if c < 0 ∨ 32 < c ∨ 65535 < n / 2 ^ c.toNat then l else l ++ List.replicate (n / 2 ^ c.toNat) true ++ [false] ++ bitsOf n c.toNat
end Go.Proofs.Ytppcccocnmhbgaa
