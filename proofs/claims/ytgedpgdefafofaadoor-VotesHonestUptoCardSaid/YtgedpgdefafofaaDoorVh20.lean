import Derived.Test.YtgedpgdefafofaaDoorVh19
import Derived.Test.YtgedpgdefafofaaDoorVh6
section
/- SHA-256, the program's: the Hasher in memory; block. -/
namespace Go.Proofs.YtgedpgdefafofaaDoor
open Go Go.RowKit
set_option linter.unusedSimpArgs false
set_option linter.unusedVariables false
set_option maxRecDepth 100000

theorem two_new (w : World) (c1 c2 : Array Value) (t1 t2 : TypeId) : Blk ((w.alloc (.cells c1 t1)).alloc (.cells c2 t2)) w.heap.size c1 t1 ∧ Blk ((w.alloc (.cells c1 t1)).alloc (.cells c2 t2)) (w.heap.size + 1) c2 t2 ∧ Below w.heap.size w ((w.alloc (.cells c1 t1)).alloc (.cells c2 t2)) := by
  have b1 := Blk.new w c1 t1
  have k := (Below.refl (w.alloc (.cells c1 t1)).heap.size (w.alloc (.cells c1 t1))).alloc (Nat.le_refl _) (.cells c2 t2)
  have hs : (w.alloc (.cells c1 t1)).heap.size = w.heap.size + 1 := by simp
  refine ⟨b1.beyond k, ?_, ((Below.refl w.heap.size w).alloc (Nat.le_refl _) _).alloc (by rw [hs]; omega) _⟩
  have := Blk.new (w.alloc (.cells c1 t1)) c2 t2
  rw [hs] at this; exact this
def u8c (x : Nat → Int) (n : Nat) : List Value := (List.range n).map fun j => .int .u8 (x j)
def u32c (x : Nat → B32) (n : Nat) : List Value := (List.range n).map fun j => .int .u32 (iv (x j))
theorem u8c_length (x : Nat → Int) (n : Nat) : (u8c x n).length = n := by simp [u8c]
theorem u32c_length (x : Nat → B32) (n : Nat) : (u32c x n).length = n := by simp [u32c]
theorem u8c_get (x : Nat → Int) (n j : Nat) (h : j < n) : (u8c x n)[j]? = some (.int .u8 (x j)) := by simp [u8c, h]
theorem u32c_get (x : Nat → B32) (n j : Nat) (h : j < n) : (u32c x n)[j]? = some (.int .u32 (iv (x j))) := by simp [u32c, h]
theorem u32c_one (x : Nat → B32) (n : Nat) : ∀ u ∈ u32c x n, u.oneCell' = true := by intro u hu; obtain ⟨j, _, rfl⟩ := List.mem_map.1 hu; rfl
theorem u8c_one (x : Nat → Int) (n : Nat) : ∀ u ∈ u8c x n, u.oneCell' = true := by intro u hu; obtain ⟨j, _, rfl⟩ := List.mem_map.1 hu; rfl
/-- the cells of a Hasher that New made -/
def hcl (σ : Nat → B32) (P : Nat → Int) (n : Nat) : List Value := .bool true :: (u32c σ 8 ++ (u8c P 64 ++ [.int .u64 (n : Int)]))
theorem hcl_length (σ : Nat → B32) (P : Nat → Int) (n : Nat) : (hcl σ P n).length = 74 := by simp [hcl, u8c, u32c]
theorem hcl_w (σ : Nat → B32) (P : Nat → Int) (n j : Nat) (h : j < 8) : (hcl σ P n)[1 + j]? = some (.int .u32 (iv (σ j))) := by
  unfold hcl
  rw [Nat.add_comm 1 j, List.getElem?_cons_succ, List.getElem?_append_left (by rw [u32c_length]; exact h), u32c_get _ _ _ h]
theorem hcl_p (σ : Nat → B32) (P : Nat → Int) (n j : Nat) (h : j < 64) : (hcl σ P n)[9 + j]? = some (.int .u8 (P j)) := by
  unfold hcl
  rw [show 9 + j = (8 + j) + 1 from by omega, List.getElem?_cons_succ, List.getElem?_append_right (by rw [u32c_length]; omega), u32c_length, List.getElem?_append_left (by rw [u8c_length]; omega), show 8 + j - 8 = j from by omega, u8c_get _ _ _ h]
theorem hcl_n (σ : Nat → B32) (P : Nat → Int) (n : Nat) : (hcl σ P n)[73]? = some (.int .u64 (n : Int)) := by
  unfold hcl
  rw [List.getElem?_cons_succ, List.getElem?_append_right (by rw [u32c_length]; omega), u32c_length, List.getElem?_append_right (by rw [u8c_length]; omega), u8c_length]; rfl
theorem hcl_ext {σ τ : Nat → B32} {P Q : Nat → Int} {n m : Nat} (h1 : ∀ j, j < 8 → σ j = τ j) (h2 : ∀ j, j < 64 → P j = Q j) (h3 : n = m) : hcl σ P n = hcl τ Q m := by
  unfold hcl u32c u8c
  subst h3
  congr 2
  · exact List.map_congr_left fun j hj => by rw [h1 j (List.mem_range.1 hj)]
  · congr 1
    exact List.map_congr_left fun j hj => by rw [h2 j (List.mem_range.1 hj)]
theorem hcl_setw (σ : Nat → B32) (P : Nat → Int) (n i : Nat) (v : B32) (h : i < 8) : (hcl σ P n).toArray.setIfInBounds (1 + i) (.int .u32 (iv v)) = (hcl (fun k => if k = i then v else σ k) P n).toArray := by
  rw [List.setIfInBounds_toArray]
  congr 1
  apply List.ext_getElem?
  intro j
  rw [List.getElem?_set]
  by_cases hj : 1 + i = j
  · subst hj
    rw [if_pos rfl, if_pos (by rw [hcl_length]; omega), hcl_w _ _ _ _ h, if_pos rfl]
  · rw [if_neg hj]
    by_cases h0 : j < 1 + 8 ∧ 1 ≤ j
    · obtain ⟨t, rfl⟩ : ∃ t, j = 1 + t := ⟨j - 1, by omega⟩
      rw [hcl_w _ _ _ _ (by omega), hcl_w _ _ _ _ (by omega), if_neg (by omega)]
    · by_cases h1 : j = 0
      · subst h1; rfl
      · by_cases h2 : j < 73
        · obtain ⟨t, rfl⟩ : ∃ t, j = 9 + t := ⟨j - 9, by omega⟩
          rw [hcl_p _ _ _ _ (by omega), hcl_p _ _ _ _ (by omega)]
        · by_cases h3 : j = 73
          · subst h3; rw [hcl_n, hcl_n]
          · rw [List.getElem?_eq_none (by rw [hcl_length]; omega), List.getElem?_eq_none (by rw [hcl_length]; omega)]
/-- the words of a block, so many of them -/
def wcl (m : Nat → B32) (k : Nat) : List Value := u32c (fun i => if i < k then shw m i else 0) 64
theorem wcl_get (m : Nat → B32) (k j : Nat) (h : j < k) (hk : k ≤ 64) : (wcl m k)[j]? = some (.int .u32 (iv (shw m j))) := by
  unfold wcl; rw [u32c_get _ _ _ (by omega), if_pos h]
theorem wcl_set (m : Nat → B32) (k : Nat) (hk : k < 64) : (wcl m k).toArray.setIfInBounds k (.int .u32 (iv (shw m k))) = (wcl m (k + 1)).toArray := by
  rw [List.setIfInBounds_toArray]
  congr 1
  apply List.ext_getElem?
  intro j
  rw [List.getElem?_set]
  unfold wcl
  by_cases hj : k = j
  · subst hj
    rw [if_pos rfl, if_pos (by rw [u32c_length]; omega), u32c_get _ _ _ hk, if_pos (by omega)]
  · rw [if_neg hj]
    by_cases h : j < 64
    · rw [u32c_get _ _ _ h, u32c_get _ _ _ h]
      by_cases h2 : j < k
      · rw [if_pos h2, if_pos (by omega)]
      · rw [if_neg h2, if_neg (by omega)]
    · rw [List.getElem?_eq_none (by rw [u32c_length]; omega), List.getElem?_eq_none (by rw [u32c_length]; omega)]
/-- the 16 words of 64 bytes -/
def msgX (x : Nat → Int) (i : Nat) : B32 := be4 (x (4 * i)) (x (4 * i + 1)) (x (4 * i + 2)) (x (4 * i + 3))
end Go.Proofs.YtgedpgdefafofaaDoor
end

section
/- SHA-256: turning right, one by one; words out of bytes. No program in sight. -/
namespace Go.Proofs.YtgedpgdefafofaaDoor
open Go
set_option linter.unusedVariables false

theorem ror_zero (x : B32) : ror x 0 = x := by
  unfold ror
  apply BitVec.eq_of_getLsbD_eq
  intro i hi
  rw [BitVec.getLsbD_rotateRight]
  simp [hi]
theorem ror_succ (x : B32) (k : Nat) (h : k + 1 < 32) : ror (ror x k) 1 = ror x (k + 1) := by
  unfold ror
  apply BitVec.eq_of_getLsbD_eq
  intro i hi
  simp only [BitVec.getLsbD_rotateRight, Bool.cond_decide]
  rw [show 1 % 32 = 1 from rfl, Nat.mod_eq_of_lt (by omega : k < 32), Nat.mod_eq_of_lt h]
  by_cases h1 : i < 32 - 1
  · rw [if_pos h1]
    by_cases h2 : 1 + i < 32 - k
    · rw [if_pos h2, if_pos (by omega)]; congr 1; omega
    · rw [if_neg h2]
      by_cases h3 : i < 32 - (k + 1)
      · omega
      · rw [if_neg h3]
        simp only [show decide (1 + i < 32) = true from decide_eq_true (by omega), show decide (i < 32) = true from decide_eq_true hi, Bool.true_and]
        congr 1; omega
  · rw [if_neg h1]
    obtain rfl : i = 31 := by omega
    by_cases h3 : 31 < 32 - (k + 1)
    · omega
    · rw [if_neg h3]
      simp only [Nat.reduceSub, Nat.reduceLT, decide_true, Bool.true_and]
      by_cases h2 : (0 : Nat) < 32 - k
      · rw [if_pos h2]; congr 1; omega
      · omega
theorem iv_be4 (x0 x1 x2 x3 : Int) (h0 : 0 ≤ x0 ∧ x0 ≤ 255) (h1 : 0 ≤ x1 ∧ x1 ≤ 255) (h2 : 0 ≤ x2 ∧ x2 ≤ 255) (h3 : 0 ≤ x3 ∧ x3 ≤ 255) : iv (be4 x0 x1 x2 x3) = ((x0 * 256 + x1) * 256 + x2) * 256 + x3 := by
  unfold iv be4
  rw [BitVec.toNat_ofInt]
  omega
theorem wraps_u32 (n : Int) (h₀ : 0 ≤ n) (h₁ : n < 2 ^ 32) : IntKind.u32.wrap n = n := by rw [IntKind.wrap_u32]; omega
theorem or_be4 (x0 x1 x2 x3 : Int) (h0 : 0 ≤ x0 ∧ x0 ≤ 255) (h1 : 0 ≤ x1 ∧ x1 ≤ 255) (h2 : 0 ≤ x2 ∧ x2 ≤ 255) (h3 : 0 ≤ x3 ∧ x3 ≤ 255) :
    bits .or .u32 (bits .or .u32 (bits .or .u32 (x0 * 16777216) (x1 * 65536)) (x2 * 256)) x3 = iv (be4 x0 x1 x2 x3) := by
  have J := bits_join .u32 32 (by decide) wraps_u32
  rw [J 24 (x0 * 16777216) (x1 * 65536) (by omega) (by omega) (by omega) (by omega) (by omega) (by omega)]
  rw [J 16 (x0 * 16777216 + x1 * 65536) (x2 * 256) (by omega) (by omega) (by omega) (by omega) (by omega) (by omega)]
  rw [J 8 (x0 * 16777216 + x1 * 65536 + x2 * 256) x3 (by omega) (by omega) (by omega) (by omega) (by omega) (by omega)]
  rw [iv_be4 x0 x1 x2 x3 h0 h1 h2 h3]
  omega
end Go.Proofs.YtgedpgdefafofaaDoor
end
