/- SHA-256: a Hasher's state says the bytes so far. No program in sight. -/
import Derived.Test.YtppcccocnmhbgaaDoorSha3
namespace Go.Proofs.YtppcccocnmhbgaaDoor
open Go
set_option linter.unusedVariables false

theorem shw_congr {m m' : Nat → B32} (h : ∀ i, i < 16 → m i = m' i) (i : Nat) : shw m i = shw m' i := by
  induction i using Nat.strongRecOn with
  | ind i ih =>
    by_cases h16 : i < 16
    · rw [shw_lo _ _ h16, shw_lo _ _ h16, h i h16]
    · rw [shw_hi m i (by omega), shw_hi m' i (by omega), ih (i - 2) (by omega), ih (i - 7) (by omega), ih (i - 15) (by omega), ih (i - 16) (by omega)]
theorem rnds_congr {m m' : Nat → B32} (h : ∀ i, i < 16 → m i = m' i) (s : Nat → B32) : ∀ k, rnds m s k = rnds m' s k
  | 0 => rfl
  | k + 1 => by
    show rnd (rnds m s k) (kw k) (shw m k) = rnd (rnds m' s k) (kw k) (shw m' k)
    rw [rnds_congr h s k, shw_congr h k]
theorem blockS_congr {s s' m m' : Nat → B32} (hs : ∀ i, i < 8 → s i = s' i) (h : ∀ i, i < 16 → m i = m' i) : ∀ i, i < 8 → blockS s m i = blockS s' m' i := by
  have key : ∀ k i, i < 8 → rnds m s k i = rnds m s' k i := by
    intro k
    induction k with
    | zero => exact hs
    | succ k ih =>
      intro i hi
      show rnd (rnds m s k) (kw k) (shw m k) i = rnd (rnds m s' k) (kw k) (shw m k) i
      unfold rnd T1 T2
      rw [ih 0 (by omega), ih 1 (by omega), ih 2 (by omega), ih 3 (by omega), ih 4 (by omega), ih 5 (by omega), ih 6 (by omega), ih 7 (by omega)]
      by_cases h0 : i = 0
      · rw [if_pos h0, if_pos h0]
      · rw [if_neg h0, if_neg h0]
        by_cases h4 : i = 4
        · rw [if_pos h4, if_pos h4]
        · rw [if_neg h4, if_neg h4, ih (i - 1) (by omega)]
  intro i hi
  unfold blockS
  rw [hs i hi, key 64 i hi, rnds_congr h s' 64]
theorem getD_left {bs zs : List Int} {j : Nat} (h : j < bs.length) : (bs ++ zs).getD j 0 = bs.getD j 0 := by
  rw [List.getD_eq_getElem?_getD, List.getElem?_append_left h, ← List.getD_eq_getElem?_getD]
theorem getD_right {bs zs : List Int} {j : Nat} : (bs ++ zs).getD (bs.length + j) 0 = zs.getD j 0 := by
  rw [List.getD_eq_getElem?_getD, List.getElem?_append_right (by omega), show bs.length + j - bs.length = j from by omega, ← List.getD_eq_getElem?_getD]
theorem blocksS_append (bs zs : List Int) : ∀ n, 64 * n ≤ bs.length → ∀ i, i < 8 → blocksS (bs ++ zs) n i = blocksS bs n i
  | 0, _, _, _ => rfl
  | n + 1, h, i, hi => by
    show blockS (blocksS (bs ++ zs) n) (msgAt (bs ++ zs) (64 * n)) i = blockS (blocksS bs n) (msgAt bs (64 * n)) i
    refine blockS_congr (blocksS_append bs zs n (by omega)) (fun i hi => ?_) i hi
    unfold msgAt
    rw [getD_left (by omega), getD_left (by omega), getD_left (by omega), getD_left (by omega)]
/-- a Hasher's state says the bytes so far -/
def HS (σ : Nat → B32) (P : Nat → Int) (bs : List Int) : Prop :=
  (∀ i, i < 8 → σ i = blocksS bs (bs.length / 64) i) ∧ (∀ j, j < 64 → 0 ≤ P j ∧ P j ≤ 255) ∧ ∀ j, j < bs.length % 64 → P j = bs.getD (bs.length / 64 * 64 + j) 0
theorem HS.nil : HS s0 (fun _ => 0) [] := ⟨fun _ _ => rfl, fun _ _ => ⟨Int.le_refl 0, by show (0 : Int) ≤ 255; decide⟩, fun j hj => by simp at hj⟩
/-- bytes are laid in the part -/
def putP (P : Nat → Int) (a : Nat) (zs : List Int) (j : Nat) : Int := if a ≤ j ∧ j < a + zs.length then zs.getD (j - a) 0 else P j
theorem putP_range {P : Nat → Int} {a : Nat} {zs : List Int} (hP : ∀ j, j < 64 → 0 ≤ P j ∧ P j ≤ 255) (hz : ∀ z ∈ zs, 0 ≤ z ∧ z ≤ 255) : ∀ j, j < 64 → 0 ≤ putP P a zs j ∧ putP P a zs j ≤ 255 := by
  intro j hj
  unfold putP
  split
  · rename_i h
    rw [List.getD_eq_getElem?_getD, List.getElem?_eq_getElem (by omega)]
    exact hz _ (List.getElem_mem _)
  · exact hP j hj
theorem HS.some {σ : Nat → B32} {P : Nat → Int} {bs zs : List Int} (h : HS σ P bs) (hz : ∀ z ∈ zs, 0 ≤ z ∧ z ≤ 255) (hk : bs.length % 64 + zs.length < 64) : HS σ (putP P (bs.length % 64) zs) (bs ++ zs) := by
  have e1 : (bs ++ zs).length / 64 = bs.length / 64 := by rw [List.length_append]; omega
  have e2 : (bs ++ zs).length % 64 = bs.length % 64 + zs.length := by rw [List.length_append]; omega
  refine ⟨fun i hi => ?_, putP_range h.2.1 hz, fun j hj => ?_⟩
  · rw [e1, blocksS_append bs zs _ (by omega) i hi]; exact h.1 i hi
  · rw [e2] at hj
    rw [e1]
    unfold putP
    by_cases h1 : bs.length % 64 ≤ j
    · rw [if_pos ⟨h1, hj⟩, show bs.length / 64 * 64 + j = bs.length + (j - bs.length % 64) from by omega, getD_right]
    · rw [if_neg (by omega), getD_left (by omega)]; exact h.2.2 j (by omega)
theorem HS.full {σ : Nat → B32} {P : Nat → Int} {bs zs : List Int} (h : HS σ P bs) (hz : ∀ z ∈ zs, 0 ≤ z ∧ z ≤ 255) (hk : bs.length % 64 + zs.length = 64) : HS (blockS σ (msgX (putP P (bs.length % 64) zs))) (putP P (bs.length % 64) zs) (bs ++ zs) := by
  have e1 : (bs ++ zs).length / 64 = bs.length / 64 + 1 := by rw [List.length_append]; omega
  have e2 : (bs ++ zs).length % 64 = 0 := by rw [List.length_append]; omega
  refine ⟨fun i hi => ?_, putP_range h.2.1 hz, fun j hj => by omega⟩
  rw [e1]
  show _ = blockS (blocksS (bs ++ zs) (bs.length / 64)) (msgAt (bs ++ zs) (64 * (bs.length / 64))) i
  refine blockS_congr (fun i hi => by rw [blocksS_append bs zs _ (by omega) i hi]; exact h.1 i hi) (fun i hi => ?_) i hi
  have pt : ∀ j, j < 64 → putP P (bs.length % 64) zs j = (bs ++ zs).getD (64 * (bs.length / 64) + j) 0 := by
    intro j hj
    unfold putP
    by_cases h1 : bs.length % 64 ≤ j
    · rw [if_pos ⟨h1, by omega⟩, show 64 * (bs.length / 64) + j = bs.length + (j - bs.length % 64) from by omega, getD_right]
    · rw [if_neg (by omega), getD_left (by omega), h.2.2 j (by omega)]
      congr 1; omega
  unfold msgX msgAt
  rw [pt _ (by omega), pt _ (by omega), pt _ (by omega), pt _ (by omega)]
  try simp only [Nat.add_assoc]
/-- the cells, when bytes are laid in the part -/
theorem hcl_put (σ : Nat → B32) (P : Nat → Int) (n a : Nat) (zs : List Int) (h : a + zs.length ≤ 64) :
    (hcl σ P n).take (9 + a) ++ zs.map (Value.int .u8) ++ (hcl σ P n).drop (9 + a + zs.length) = hcl σ (putP P a zs) n := by
  have l1 : ((hcl σ P n).take (9 + a)).length = 9 + a := by rw [List.length_take, hcl_length]; omega
  apply List.ext_getElem?
  intro i
  by_cases h1 : i < 9 + a
  · rw [List.append_assoc, List.getElem?_append_left (by omega), List.getElem?_take, if_pos h1]
    by_cases h0 : i = 0
    · subst h0; rfl
    · by_cases h2 : i < 9
      · obtain ⟨t, rfl⟩ : ∃ t, i = 1 + t := ⟨i - 1, by omega⟩
        rw [hcl_w _ _ _ _ (by omega), hcl_w _ _ _ _ (by omega)]
      · obtain ⟨t, rfl⟩ : ∃ t, i = 9 + t := ⟨i - 9, by omega⟩
        rw [hcl_p _ _ _ _ (by omega), hcl_p _ _ _ _ (by omega)]
        unfold putP; rw [if_neg (by omega)]
  · by_cases h2 : i < 9 + a + zs.length
    · obtain ⟨t, rfl⟩ : ∃ t, i = 9 + a + t := ⟨i - (9 + a), by omega⟩
      rw [List.append_assoc, List.getElem?_append_right (by omega), l1, List.getElem?_append_left (by rw [List.length_map]; omega), show 9 + a + t - (9 + a) = t from by omega, List.getElem?_map, List.getElem?_eq_getElem (by omega),
        show 9 + a + t = 9 + (a + t) from by omega, hcl_p _ _ _ _ (by omega)]
      unfold putP
      rw [if_pos ⟨by omega, by omega⟩, show a + t - a = t from by omega, List.getD_eq_getElem?_getD, List.getElem?_eq_getElem (by omega)]
      rfl
    · rw [List.getElem?_append_right (by rw [List.length_append, l1, List.length_map]; omega), List.length_append, l1, List.length_map, List.getElem?_drop, show 9 + a + zs.length + (i - (9 + a + zs.length)) = i from by omega]
      by_cases h3 : i < 73
      · obtain ⟨t, rfl⟩ : ∃ t, i = 9 + t := ⟨i - 9, by omega⟩
        rw [hcl_p _ _ _ _ (by omega), hcl_p _ _ _ _ (by omega)]
        unfold putP; rw [if_neg (by omega)]
      · by_cases h4 : i = 73
        · subst h4; rw [hcl_n, hcl_n]
        · rw [List.getElem?_eq_none (by rw [hcl_length]; omega), List.getElem?_eq_none (by rw [hcl_length]; omega)]
theorem hcl_setn (σ : Nat → B32) (P : Nat → Int) (n m : Nat) : (hcl σ P n).toArray.setIfInBounds 73 (.int .u64 (m : Int)) = (hcl σ P m).toArray := by
  rw [List.setIfInBounds_toArray]
  congr 1
end Go.Proofs.YtppcccocnmhbgaaDoor
