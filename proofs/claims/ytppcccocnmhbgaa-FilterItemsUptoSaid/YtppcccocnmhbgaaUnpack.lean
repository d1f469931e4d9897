/- Bits out of bytes: plain facts, no program in sight. -/
import Derived.Test.YtppcccocnmhbgaaBits0
namespace Go.Proofs.Ytppcccocnmhbgaa
open Go Go.RowKit

/-- bit j of a byte, the highest first -/
def zb (x : Int) (j : Nat) : Bool := x.toNat.testBit (7 - j)
def unpack : List Int → List Bool
  | [] => []
  | x :: r => zb x 0 :: zb x 1 :: zb x 2 :: zb x 3 :: zb x 4 :: zb x 5 :: zb x 6 :: zb x 7 :: unpack r
theorem unpack_length (Z : List Int) : (unpack Z).length = 8 * Z.length := by induction Z with | nil => rfl | cons x r ih => simp [unpack, ih]; omega
theorem unpack_get : ∀ (Z : List Int) (k : Nat), k < 8 * Z.length → (unpack Z)[k]? = some (zb (Z.getD (k / 8) 0) (k % 8))
  | [], k, h => by simp at h
  | x :: r, k, h => by
    by_cases hk : k < 8
    · rcases (by omega : k = 0 ∨ k = 1 ∨ k = 2 ∨ k = 3 ∨ k = 4 ∨ k = 5 ∨ k = 6 ∨ k = 7) with h | h | h | h | h | h | h | h <;> subst h <;> rfl
    · obtain ⟨j, rfl⟩ : ∃ j, k = j + 8 := ⟨k - 8, by omega⟩
      have ih := unpack_get r j (by simp at h; omega)
      rw [show (j + 8) / 8 = j / 8 + 1 from by omega, show (j + 8) % 8 = j % 8 from by omega, List.getD_cons_succ, ← ih]
      simp [unpack]
theorem unpack_drop (x : Int) (r : List Int) (t : Nat) (h : t < 8) : (unpack (x :: r)).drop t = zb x t :: (unpack (x :: r)).drop (t + 1) := by
  rcases (by omega : t = 0 ∨ t = 1 ∨ t = 2 ∨ t = 3 ∨ t = 4 ∨ t = 5 ∨ t = 6 ∨ t = 7) with h | h | h | h | h | h | h | h <;> subst h <;> rfl
theorem unpack_eight (x : Int) (r : List Int) : (unpack (x :: r)).drop 8 = unpack r := rfl
/-- what was packed, and noughts up to a whole byte -/
theorem unpack_pack (l : List Bool) : unpack (pack l) = l ++ List.replicate (8 * nby l.length - l.length) false := by
  have hn : l.length ≤ 8 * nby l.length := by unfold nby; omega
  apply List.ext_getElem?; intro k
  by_cases hk : k < 8 * nby l.length
  · rw [unpack_get _ _ (by rw [pack_length]; exact hk)]
    have hb : k / 8 < nby l.length := by omega
    have e1 : (pack l).getD (k / 8) 0 = ((accB l l.length (k / 8) : Nat) : Int) := by
      rw [List.getD_eq_getElem?_getD]
      unfold pack
      rw [part_get l _ _ hb]; rfl
    rw [e1]
    unfold zb
    rw [Int.toNat_natCast, accB_bit, show 8 * (k / 8) + (7 - (7 - k % 8)) = k from by omega]
    by_cases hl : k < l.length
    · rw [List.getElem?_append_left hl]
      have : decide (7 - k % 8 < 8 ∧ k < l.length) = true := decide_eq_true ⟨by omega, hl⟩
      rw [this]
      simp [List.getD, hl]
    · rw [List.getElem?_append_right (by omega), List.getElem?_replicate, if_pos (by omega)]
      simp [hl]
  · rw [List.getElem?_eq_none (by rw [unpack_length, pack_length]; omega), List.getElem?_eq_none (by simp; omega)]
theorem pad_lt (l : List Bool) : 8 * nby l.length - l.length < 8 := by unfold nby; omega
theorem pack_range (l : List Bool) : ∀ x ∈ pack l, 0 ≤ x ∧ x < 256 := by
  intro x hx
  simp only [pack, part, List.mem_map, List.mem_range] at hx
  obtain ⟨i, _, rfl⟩ := hx
  have := accB_lt l l.length i
  omega
/-- bits as a number -/
def valOf (s : List Bool) : Nat := s.foldl (fun n b => 2 * n + b.toNat) 0
theorem foldl_bitsOf (n m : Nat) : ∀ c, (bitsOf n c).foldl (fun n b => 2 * n + b.toNat) m = m * 2 ^ c + n % 2 ^ c
  | 0 => by simp [bitsOf, Nat.mod_one]
  | c + 1 => by
    rw [bitsOf, List.foldl_cons, foldl_bitsOf n _ c]
    have e : n % 2 ^ (c + 1) = n % 2 ^ c + 2 ^ c * (n.testBit c).toNat := by rw [Nat.mod_pow_succ, Nat.toNat_testBit]
    rw [e, Nat.pow_succ, Nat.add_mul]
    have : (n.testBit c).toNat * 2 ^ c = 2 ^ c * (n.testBit c).toNat := Nat.mul_comm _ _
    have : 2 * m * 2 ^ c = m * (2 ^ c * 2) := by rw [Nat.mul_comm 2 m, Nat.mul_assoc, Nat.mul_comm 2]
    omega
theorem valOf_bitsOf (n c : Nat) : valOf (bitsOf n c) = n % 2 ^ c := by unfold valOf; rw [foldl_bitsOf]; omega
theorem valOf_snoc (s : List Bool) (b : Bool) : valOf (s ++ [b]) = 2 * valOf s + b.toNat := by simp [valOf]
theorem valOf_lt (s : List Bool) : valOf s < 2 ^ s.length := by
  have key : ∀ (s : List Bool) (m : Nat), s.foldl (fun n b => 2 * n + b.toNat) m < (m + 1) * 2 ^ s.length := by
    intro s
    induction s with
    | nil => intro m; simp
    | cons b s ih =>
      intro m
      refine Nat.lt_of_lt_of_le (ih _) ?_
      rw [List.length_cons, Nat.pow_succ, Nat.mul_comm _ 2, ← Nat.mul_assoc]
      refine Nat.mul_le_mul_right _ ?_
      have : b.toNat ≤ 1 := Bool.toNat_le b
      show 2 * m + b.toNat + 1 ≤ _
      omega
  have := key s 0
  simpa [valOf] using this
/-- bits one list behind the other -/
def catb (B : Nat → List Bool) : Nat → Nat → List Bool
  | _, 0 => []
  | j, m + 1 => B j ++ catb B (j + 1) m
end Go.Proofs.Ytppcccocnmhbgaa
